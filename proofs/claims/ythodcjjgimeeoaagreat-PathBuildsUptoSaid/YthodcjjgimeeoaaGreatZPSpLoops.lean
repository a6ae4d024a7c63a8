/- Shaken copy of a longer text: what one law needs. Its conditions: none. -/
import Derived.Test.YthodcjjgimeeoaaGreatZAiG
set_option linter.unusedSimpArgs false
set_option linter.unusedVariables false
set_option linter.unusedSectionVars false
set_option linter.unnecessarySimpa false
namespace Go.Proofs.YthodcjjgimeeoaaGreat.P
open Go.AI
theorem zdX {α ρ:Type} {step:Int→Option (Int⊕ρ)} {l:List α} (p:α→Bool) (f:Nat→ρ) (e:ρ) (h:∀k (hk:k<l.length),step (k:Int)=some (if p l[k]=true then .inr (f k)else .inl ((k+1:Nat):Int))) (he:step (l.length:Int)=some (.inr e)):zaL step 0=some (match l.findIdx? p with|some k=>f k|none=>e):=by
 obtain⟨r,hr,rfl⟩:=zuP (step:=step) l.length (fun k x=>x=(k:Int)∧(l.drop k).findIdx? p=(l.findIdx? p).map (· -k)∧∀j,l.findIdx? p=some j→k≤j) (fun r=>r=match l.findIdx? p with|some k=>f k|none=>e) (by
  rintro k x hk ⟨rfl,hF,hj⟩
  by_cases hl:k<l.length
  ·rw[List.drop_eq_getElem_cons hl,List.findIdx?_cons]at hF
   rcases hp:p l[k]with _|_
   ·left
    refine⟨hl,((k+1:Nat):Int),by rw[h k hl,hp];rfl,rfl,?_,?_⟩
    ·rw[hp]at hF
     rcases hx:l.findIdx? p with _|j
     ·rw[hx]at hF;simpa using hF
     ·rw[hx]at hF
      simp only[Bool.false_eq_true,if_false,Option.map_some]at hF⊢
      rcases hd:(l.drop (k+1)).findIdx? p with _|i
      ·rw[hd]at hF;cases hF
      ·rw[hd]at hF
       simp only[Option.map_some,Option.some.injEq]at hF⊢
       omega
    ·intro j hx
     have:=hj j hx
     rw[hx,hp]at hF
     simp only[Bool.false_eq_true,if_false,Option.map_some]at hF
     rcases hd:(l.drop (k+1)).findIdx? p with _|i
     ·rw[hd]at hF;cases hF
     ·rw[hd]at hF
      simp only[Option.map_some,Option.some.injEq]at hF
      omega
   ·right
    refine⟨f k,by rw[h k hl,hp];rfl,?_⟩
    rw[hp]at hF
    rcases hx:l.findIdx? p with _|j
    ·rw[hx]at hF;simp at hF
    ·rw[hx]at hF
     have:=hj j hx
     simp only[if_true,Option.map_some,Option.some.injEq]at hF
     rw[show k=j by omega]
  ·have hkl:k=l.length:=by omega
   subst hkl
   right
   refine⟨e,he,?_⟩
   rcases hx:l.findIdx? p with _|j
   ·rfl
   ·rw[hx,List.drop_length]at hF;simp at hF) 0 0 (Nat.zero_le _) ⟨rfl,by simp,fun _ _=>Nat.zero_le _⟩
 exact hr
theorem zgo {α ρ:Type} {step:Int→Option (Int⊕ρ)} {l:List α} (p:α→Bool) (f e:ρ) (h:∀k (hk:k<l.length),step (k:Int)=some (if p l[k]=true then .inr f else .inl ((k+1:Nat):Int))) (he:step (l.length:Int)=some (.inr e)):zaL step 0=some (if l.any p=true then f else e):=by
 rw[zdX p (fun _=>f) e h he]
 rcases hx:l.findIdx? p with _|j
 ·rw[if_neg]
  rw[List.findIdx?_eq_none_iff]at hx
  simpa using hx
 ·rw[if_pos]
  rw[List.findIdx?_eq_some_iff_getElem]at hx
  obtain⟨h1,h2,-⟩:=hx
  exact List.any_eq_true.2 ⟨_,List.getElem_mem h1,h2⟩
end Go.Proofs.YthodcjjgimeeoaaGreat.P
