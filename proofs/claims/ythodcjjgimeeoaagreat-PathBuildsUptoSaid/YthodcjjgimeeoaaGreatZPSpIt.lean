/- Shaken copy of a longer text: what one law needs. Its conditions: none. -/
import Derived.Test.YthodcjjgimeeoaaGreatZPSpFo9
set_option linter.unusedSimpArgs false
set_option linter.unusedVariables false
set_option linter.unusedSimpArgs false
set_option linter.unusedVariables false
set_option linter.unusedSectionVars false
set_option linter.unnecessarySimpa false
namespace Go.Proofs.YthodcjjgimeeoaaGreat.P
open Go.AI
abbrev zEr (f:Forest) (h:Int) (y:V):List V:=[.d (zaa f),.d (.int .i64 h),y]
section
variable {σ ρ:Type} {n:Fx} {b c0 N0:Nat} {S:σ→Heap} {F:ρ→Heap} {step:σ→Int→Option (σ⊕ρ)} {P:Nat→Prop} {G:Nat→Option Blk} {Q:Ex→St→Prop} {o:σ⊕ρ}
theorem zrB {f:Forest} (hf:Fit f.nodes.l) (hr:zaJ f.nodes.l) {h:Int} (hh:isN f.nodes.l h) (ih:∀k∈kidsL f.nodes.l h,Iter prog 152 (zEr f k) (D.int .i64) (zdw f.nodes.l k))
 (Y:Yl prog n b (D.int .i64) S F step) (hS:∀x,n.1≤(S x).next) (hF:∀r,n.1≤(F r).next) (hP:P c0)
 (hQe:∀r K,o.isLeft=true→Emb n P (SF S F o) K→(∀c,P c→K.get c=G c)→N0≤K.next→Q (.exit 0) ⟨r,K⟩)
 (hQr:∀r K,o.isLeft=false→r 6= .d (.bool false)→Emb n P (SF S F o) K→(∀c,P c→K.get c=G c)→N0≤K.next→Q .ret ⟨r,K⟩) (hG:G c0=some (.els 1 [.d (zaa f)] 0)):
 ∀m k,k+m=(kidsL f.nodes.l h).length→∀(y:σ) (K:Heap) (r:Regs),r 2= .yld b→r 3= .ptr c0 0 0→r 16= .d (.list (nodeD f.nodes.l h).kids.n ((kidsL f.nodes.l h).map (D.int .i64)))→r 17= .d (.int .i64 ((kidsL f.nodes.l h).length:Int))→r 18= .d (.int .i64 (k:Int))→
  Emb n P (S y) K→(∀c,P c→K.get c=G c)→N0≤K.next→foldI step y (((kidsL f.nodes.l h).drop k).flatMap (zdw f.nodes.l))=some o→Wp prog (.loop zlT) ⟨r,K⟩ Q:=by
 intro m
 induction m with
 |zero=>
  intro k hk y K r r2 r3 r16 r17 r18 hE hK hN hfo
  obtain rfl:k=(kidsL f.nodes.l h).length:=by omega
  rw[List.drop_length,List.flatMap_nil]at hfo
  cases hfo
  refine Wp.peel ?_
  obtain⟨Q1,hQ1⟩:∃Q1,Q1=Ex.seq prog (.loop zlT) Q:=⟨_,rfl⟩
  rw[←hQ1]
  delta zlT
  simp only[go_sem,r17,r18]
  rw[show decide (((kidsL f.nodes.l h).length:Int)<((kidsL f.nodes.l h).length:Int))=false by simp]
  simp only[go_sem]
  rw[hQ1]
  exact hQe _ _ rfl (hE.bump (Y.locS _) (hS _) 1) hK (Nat.le_trans hN (Nat.le_add_right _ _))
 |succ m ihm=>
  intro k hk y K r r2 r3 r16 r17 r18 hE hK hN hfo
  have hlt:k<(kidsL f.nodes.l h).length:=by omega
  have hmem:(kidsL f.nodes.l h)[k]∈kidsL f.nodes.l h:=List.getElem_mem hlt
  have hw:=zaK (show k<2^62 by have:=zjT hf h;unfold kidsL at hlt;omega)
  have hget:((kidsL f.nodes.l h).map (D.int .i64))[k]? =some (.int .i64 (kidsL f.nodes.l h)[k]):=by simp[hlt]
  have hbox:K.get c0=some (.els 1 [.d (zaa f)] 0):=(hK c0 hP).trans hG
  refine Wp.peel ?_
  obtain⟨Q1,hQ1⟩:∃Q1,Q1=Ex.seq prog (.loop zlT) Q:=⟨_,rfl⟩
  rw[←hQ1]
  delta zlT
  simp only[go_sem,r17,r18]
  rw[show decide ((k:Int)<((kidsL f.nodes.l h).length:Int))=true from decide_eq_true (by omega)]
  simp only[go_sem,r16,r18,r2,r3,hbox,hget]
  rw[List.drop_eq_getElem_cons hlt]at hfo
  have hE2:=((hE.bump (Y.locS _) (hS _) 1).bump (Y.locS _) (hS _) 3).bump (Y.locS _) (hS _) 5
  rcases zvd hfo with⟨z,h1,h2⟩|⟨z,h1,h2⟩
  ·obtain⟨K',e1,M1,M2,M3⟩:=(ih _ hmem).go Y hS hF h1 hE2
   refine zhX e1 ?_
   simp only[go_sem,r18]
   rw[hQ1]
   refine ihm (k+1) (by omega) z _ _ ?_ ?_ ?_ ?_ ?_ ((M1.bump (Y.locS _) (hS _) 2)) (fun c hc=>(M2 c hc).trans (hK c hc)) ?_ h2
   ·simp only[go_sem,r2]
   ·simp only[go_sem,r3]
   ·simp only[go_sem,r16]
   ·simp only[go_sem,r17]
   ·simp only[go_sem,hw]
   ·have:K.next≤K'.next:=Nat.le_trans (by show K.next≤K.next+1+3+5;omega) M3
    show N0≤K'.next+2;omega
  ·obtain⟨K',e1,M1,M2,M3⟩:=(ih _ hmem).go Y hS hF h1 hE2
   refine zhX e1 ?_
   simp only[go_sem]
   subst h2
   rw[hQ1]
   refine hQr _ _ rfl rfl ((M1.bump (Y.locF _) (hF _) 1)) (fun c hc=>(M2 c hc).trans (hK c hc)) ?_
   have:K.next≤K'.next:=Nat.le_trans (by show K.next≤K.next+1+3+5;omega) M3
   show N0≤K'.next+1;omega
end
theorem zrC (f:Forest) (hf:Fit f.nodes.l) (hr:zaJ f.nodes.l):∀h,isN f.nodes.l h→Iter prog 152 (zEr f h) (D.int .i64) (zdw f.nodes.l h):=by
 refine zhg hr fun h hh ih=>⟨?_⟩
 intro σ ρ n b S F step Y hS hF x o hfo P K hE
 have hg:∃v K',ans prog (.d (.fn 152)) (zEr f h (.yld b)) K=some (v,K')∧(v= .d (.bool o.isLeft)∧Emb n P (SF S F o) K'∧(∀c,P c→K'.get c=K.get c)∧K.next≤K'.next):=by
  refine zvV rfl rfl ?_
  delta zOq zEr
  simp only[go_sem]
  have hE1:=hE.grow (K1:=((K.bump 2).put K.next (.els 1 [.d (zaa f)] 0)).bump 4) (Y.locS _) (hS _) (by show K.next≤K.next+2+4;omega) (fun c hc=>by
   show((K.bump 2).put K.next (.els 1 [.d (zaa f)] 0)).get c=K.get c
   rw[Heap.put_ne _ _ (by omega)];rfl)
  obtain⟨K1,hK1⟩:∃K1,K1=((K.bump 2).put K.next (.els 1 [.d (zaa f)] 0)).bump 4:=⟨_,rfl⟩
  have hn1:K1.next=K.next+6:=by rw[hK1];rfl
  have hold:∀c,P c→K1.get c=K.get c:=fun c hc=>by
   have:=hE.lt c hc
   rw[hK1]
   show((K.bump 2).put K.next (.els 1 [.d (zaa f)] 0)).get c=K.get c
   rw[Heap.put_ne _ _ (by omega)];rfl
  have hb1:K1.get K.next=some (.els 1 [.d (zaa f)] 0):=by
   rw[hK1]
   show((K.bump 2).put K.next (.els 1 [.d (zaa f)] 0)).get K.next=_
   rw[Heap.put_eq]
  rw[←hK1]at hE1⊢
  rw[all_in hr hh]at hfo
  have hs:(∃z,step x h=some (.inl z)∧foldI step z ((kidsL f.nodes.l h).flatMap (zdw f.nodes.l))=some o)∨∃z,step x h=some (.inr z)∧o= .inr z:=by
   simp only[foldI]at hfo
   obtain⟨p,h1,h2⟩:=Option.bind_eq_some_iff.1 hfo
   cases p with
   |inl z=>exact .inl ⟨z,h1,h2⟩
   |inr z=>cases h2;exact .inr ⟨z,h1,rfl⟩
  rcases hs with⟨z,h1,h2⟩|⟨z,h1,rfl⟩
  ·obtain⟨K2,e1,M1,M2,M3⟩:=Y.call zaV h1 hE1
   refine zhX e1 ?_
   have hb2:K2.get K.next=some (.els 1 [.d (zaa f)] 0):=(M2 _ (.inr ⟨Nat.le_refl _,by omega⟩)).trans hb1
   simp only[go_sem,hb2]
   refine zal (zeL f h hf.1) ?_
   simp only[go_sem]
   refine zrB (N0:=K.next) (c0:=K.next) (G:=K2.get) hf hr hh ih Y hS hF (.inr ⟨Nat.le_refl _,by omega⟩) ?_ ?_ hb2 (kidsL f.nodes.l h).length 0 (by omega) z _ _ ?_ ?_ ?_ ?_ ?_ ((M1.bump (Y.locS _) (hS _) 6)) (fun _ _=>rfl) ?_ h2
   ·intro r K3 hl M4 M5 M6
    simp only[go_sem]
    exact⟨by rw[hl],(M4.bump (Y.loc _) (zGM Y hS hF _) 1).mono fun _=> .inl,fun c hc=>by rw[M5 c (.inl hc),M2 c (.inl hc),hold c hc],Nat.le_trans M6 (Nat.le_add_right _ _)⟩
   ·intro r K3 hl h6 M4 M5 M6
    simp only[go_sem,h6]
    exact⟨by rw[hl],M4.mono fun _=> .inl,fun c hc=>by rw[M5 c (.inl hc),M2 c (.inl hc),hold c hc],M6⟩
   ·first|(simp only[go_sem];done)|(simp only[go_sem];rfl)
   ·first|(simp only[go_sem];done)|(simp only[go_sem];rfl)
   ·first|(simp only[go_sem];done)|(simp only[go_sem];rfl)
   ·first|(simp only[go_sem];done)|(simp only[go_sem];rfl)
   ·first|(simp only[go_sem];done)|(simp only[go_sem];rfl)
   ·show K.next≤K2.next+6;omega
  ·obtain⟨K2,e1,M1,M2,M3⟩:=Y.call zaV h1 hE1
   refine zhX e1 ?_
   simp only[go_sem]
   exact⟨(M1.bump (Y.locF _) (hF _) 1).mono fun _=> .inl,fun c hc=>(M2 c (.inl hc)).trans (hold c hc),by show K.next≤K2.next+1;omega⟩
 obtain⟨v,K',h1,rfl,h2⟩:=hg
 exact⟨K',h1,h2⟩
noncomputable def zhR (f:Forest) (h:Int):Option (List Int):=open Classical in if Fit f.nodes.l∧zaJ f.nodes.l∧isN f.nodes.l h then some (zdw f.nodes.l h)else none
theorem zpH {f:Forest} {h:Int} {l:List Int} (e:zhR f h=some l):Iter prog 152 (fun y=>[.d (zaa f),.d (.int .i64 h),y]) (D.int .i64) l:=by
 unfold zhR at e
 obtain⟨⟨h1,h2,h3⟩,rfl⟩:=by simpa using e
 exact zrC f h1 h2 h h3
theorem zpI {f:Forest} {h:Int} (h1:Fit f.nodes.l) (h2:zaJ f.nodes.l) (h3:isN f.nodes.l h):zhR f h=some (zdw f.nodes.l h):=if_pos ⟨h1,h2,h3⟩
end Go.Proofs.YthodcjjgimeeoaaGreat.P
