/- Shaken copy of a longer text: what one law needs. Its conditions: none. -/
import Derived.Test.YtfleilibjdgcjaaYVDec0
set_option linter.unusedSimpArgs false
set_option linter.unusedVariables false
set_option linter.unusedSimpArgs false
set_option linter.unusedVariables false
set_option linter.unusedSectionVars false
set_option linter.unnecessarySimpa false
namespace Go.Proofs.Ytfleilibjdgcjaa.V
open Go.AI
def zmh (k:Int):FuncId:=if k=1 then 194 else if k=11 then 195 else if k=10 then 196 else 197
def zhd (a:valid_ask) (k:Int):V:= .clo (zmh k) [.d (zaq a)] []
noncomputable def zhe (a:valid_ask) (k:Int) (x:Int):Option Bool:=dec D.bool (pc prog (zmh k) [zaq a,.int .i64 x])
theorem zob {a:valid_ask} {k x:Int} {r:Bool} (h:zhe a k x=some r) (H:Heap):∃K,ans prog (zhd a k) [.d (.int .i64 x)] H=some (.d (.bool r),K)∧zec H K:=by
 obtain⟨K,h1,h2⟩:=zGO zbb (zaj h) H
 refine⟨K,?_,h2⟩
 obtain⟨n,hn⟩:=zcr.1 h1
 refine zcr.2 ⟨n,?_⟩
 cases n with
 |zero=>exact hn
 |succ n=>exact hn
theorem zte {H:Heap} {m:Nat}:zec H (H.bump m):=⟨fun _ _=>rfl,Nat.le_add_right _ _⟩
theorem zeR {H K:Heap} {b:Nat} {x:Blk} (h:zec H K) (hb:H.next≤b):zec H (K.put b x):=⟨fun c hc=>by rw[Heap.put_ne _ _ (by omega)];exact h.1 c hc,h.2⟩
theorem zbm {H K:Heap} {m:Nat} (h:zec H K):zec H (K.bump m):=⟨h.1,Nat.le_trans h.2 (Nat.le_add_right _ _)⟩
theorem zMl {b:Nat} {h:Heap} {v:V}:zlz [.int] (.int .u8 1) v b h (some (.map [] 0))=some (.undef,h.put b (.map [(.int .u8 1,v,0)] 1)):=rfl
theorem zMm {b:Nat} {h:Heap} {v w:V}:zlz [.int] (.int .u8 11) v b h (some (.map [(.int .u8 1,w,0)] 1))=some (.undef,h.put b (.map [(.int .u8 1,w,0),(.int .u8 11,v,1)] 2)):=rfl
theorem zMn {b:Nat} {h:Heap} {v w x:V}:zlz [.int] (.int .u8 10) v b h (some (.map [(.int .u8 1,w,0),(.int .u8 11,x,1)] 2))=some (.undef,h.put b (.map [(.int .u8 1,w,0),(.int .u8 11,x,1),(.int .u8 10,v,2)] 3)):=rfl
theorem zEd {k j:Int}:zdL [.int] (.int .u8 k) (.int .u8 j)=some (k==j):=by
 unfold zdL
 rw[if_pos ⟨rfl,rfl⟩]
 simp[zaI,zbn,D.cells]
theorem zLg {h:Heap} {w x v:V} {k:Int}:zly [.int] .nilf (.int .u8 k) false h (some (.map [(.int .u8 1,w,0),(.int .u8 11,x,1),(.int .u8 10,v,2)] 3))=some (if k=1 then w else if k=11 then x else if k=10 then v else .d .nilf,h):=by
 simp only[zly,zgt,zEd,zdC,Option.bind_some,beq_self_eq_true,if_true]
 by_cases h1:k=1
 ·subst h1;rfl
 by_cases h2:k=11
 ·subst h2;rfl
 by_cases h3:k=10
 ·subst h3;rfl
 rw[show(k==1)=false by simpa using h1,show(k==11)=false by simpa using h2,show(k==10)=false by simpa using h3,if_neg h1,if_neg h2,if_neg h3];rfl
theorem zAR (a:valid_ask) (k:Int) (H:Heap):∃K,ans prog (.d (.fn 159)) [.d (zaq a),.d (.int .u8 k)] H=some (zhd a k,K)∧zec H K:=by
 have hg:∃v K,ans prog (.d (.fn 159)) [.d (zaq a),.d (.int .u8 k)] H=some (v,K)∧(v=zhd a k∧zec H K):=by
  refine zkt rfl rfl ?_
  delta zJM
  simp only[go_sem,zMl,zMm,zMn,zLg]
  unfold zhd zmh
  have K0:zec H ((((((((H.bump 2).put H.next (Blk.els 4 [V.d (zaq a)] 0)).bump 12).put (H.next+2) (Blk.map [] 0)).put (H.next+2) (.map [(.int .u8 1,V.clo 194 [V.d (zaq a)] [],0)] 1)).put (H.next+2) (.map [(.int .u8 1,V.clo 194 [V.d (zaq a)] [],0),(.int .u8 11,V.clo 195 [V.d (zaq a)] [],1)] 2)).put (H.next+2) (.map [(.int .u8 1,V.clo 194 [V.d (zaq a)] [],0),(.int .u8 11,V.clo 195 [V.d (zaq a)] [],1),(.int .u8 10,V.clo 196 [V.d (zaq a)] [],2)] 3))):=
   zeR (zeR (zeR (zeR (zbm (zeR zte (Nat.le_refl _))) (by omega)) (by omega)) (by omega)) (by omega)
  have bn:∀f l m,binV .neq .func (V.clo f l m) (.d .nilf)=some (.d (.bool true)):=fun _ _ _=>rfl
  have bz:binV .neq .func (.d .nilf) (.d .nilf)=some (.d (.bool false)):=rfl
  by_cases h1:k=1
  ·simp only[go_sem,if_pos h1,bn]
   exact zbm (zbm (zbm K0))
  by_cases h2:k=11
  ·simp only[go_sem,if_neg h1,if_pos h2,bn]
   exact zbm (zbm (zbm K0))
  by_cases h3:k=10
  ·simp only[go_sem,if_neg h1,if_neg h2,if_pos h3,bn]
   exact zbm (zbm (zbm K0))
  simp only[go_sem,if_neg h1,if_neg h2,if_neg h3,bz]
  exact zbm (zbm (zbm K0))
 obtain⟨v,K,h1,rfl,h2⟩:=hg
 exact⟨K,h1,h2⟩
end Go.Proofs.Ytfleilibjdgcjaa.V
