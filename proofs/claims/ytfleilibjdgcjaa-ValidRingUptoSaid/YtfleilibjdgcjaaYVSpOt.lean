/- Shaken copy of a longer text: what one law needs. Its conditions: none. -/
import Derived.Test.YtfleilibjdgcjaaYVSpDf
import Derived.Test.YtfleilibjdgcjaaYVSpFlt
set_option linter.unusedSimpArgs false
set_option linter.unusedVariables false
set_option linter.unusedSimpArgs false
set_option linter.unusedVariables false
set_option linter.unusedSectionVars false
set_option linter.unnecessarySimpa false
namespace Go.Proofs.Ytfleilibjdgcjaa.V
open Go.AI
def zeA (a:valid_ask):List Int:=(kidsL a.f.nodes.l a.parent).filter fun k=> !(a.replace&&(k==a.child))
theorem zxG (a:valid_ask) (b lo:Nat) (G:Nat→Option Blk) (hb:b<lo) (hG:G b=some (.els 4 [.d (zaq a)] 0)) (l:List Int):zHy lo G (.clo 239 [] [.ptr b 0 0]) (fun k=>a.replace&&(k==a.child)) l:=by
 intro x _ K hK hg
 have hbx:K.get b=some (.els 4 [.d (zaq a)] 0):=(hg b hb).trans hG
 have h:∃v K',ans prog (.clo 239 [] [.ptr b 0 0]) [.d (.int .i64 x)] K=some (v,K')∧(v= .d (.bool (a.replace&&(x==a.child)))∧zec K K'):=by
  refine zjc rfl rfl ?_
  delta zJP
  simp only[go_sem,hbx]
  cases hrp:a.replace with
  |true=>
   simp only[go_sem,hbx]
   exact⟨fun _ _=>rfl,by show K.next≤_;simp only[go_sem];omega⟩
  |false=>
   simp only[go_sem,hbx]
   exact⟨fun _ _=>rfl,by show K.next≤_;simp only[go_sem];omega⟩
 obtain⟨v,K',h1,rfl,h2⟩:=h
 exact⟨K',h1,h2⟩
theorem zth (a:valid_ask) (hf:Fit a.f.nodes.l) (hn:(nodeD a.f.nodes.l a.parent).kids.n=true→kidsL a.f.nodes.l a.parent=[]):∃n,pc prog 233 [zaq a]=some (.list n ((zeA a).map (D.int .i64))):=by
 have hk:=zcg hf a.parent
 obtain⟨v,K1,e1,k1,o1⟩:=zxE (kidsL a.f.nodes.l a.parent) (nodeD a.f.nodes.l a.parent).kids.n hn hk ((((Heap.empty.bump 2).put 0 (.els 4 [.d (zaq a)] 0))).bump 10)
 have hbx:K1.get 0=some (.els 4 [.d (zaq a)] 0):=k1.1 0 (by show 0<12;decide)
 obtain⟨w,K2,e2,n2,o2,l2⟩:=zHA (fv:= .clo 239 [] [.ptr 0 0 0]) (lo:=12) (G:=K1.get) hk (zxG a 0 12 K1.get (by decide) hbx _) (H0:=K1) k1.2 (fun _ _=>rfl) o1
 have main:∀n,Reads (.list n ((zeA a).map (D.int .i64))) w K2→pc prog 233 [zaq a]=some (.list n ((zeA a).map (D.int .i64))):=by
  intro n hR
  refine zaR (fn:=zJk) rfl rfl ?_
  delta zJk
  simp only[go_sem]
  refine zam (zcz a.f a.parent hf.1) ?_
  simp only[go_sem]
  refine zeH e1 ?_
  simp only[go_sem]
  refine zeH e2 ?_
  simp only[go_sem]
  exact hR
 rcases l2 with⟨n,rfl,hz⟩|⟨c,M,rfl,hg,ht,hl⟩
 ·exact⟨n,main n (by rw[show zeA a=[]from hz];rfl)⟩
 ·refine⟨false,main false ?_⟩
  unfold Reads
  have ht:M.take (zeA a).length=zeA a:=ht
  have hl:(zeA a).length≤M.length:=hl
  show Option.map Prod.fst (res 8 K2 (V.sl c 0 (zeA a).length))=_
  simp only[res,hg]
  rw[if_pos (by simp;omega),List.drop_zero,←List.map_take,ht,zvw,znh]
  rfl
end Go.Proofs.Ytfleilibjdgcjaa.V
