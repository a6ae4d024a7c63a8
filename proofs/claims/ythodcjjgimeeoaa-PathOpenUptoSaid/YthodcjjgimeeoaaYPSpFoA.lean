/- Shaken copy of a longer text: what one law needs. Its conditions: none. -/
import Derived.Test.YthodcjjgimeeoaaYPSpFlt
set_option linter.unusedSimpArgs false
set_option linter.unusedVariables false
set_option linter.unusedSimpArgs false
set_option linter.unusedVariables false
set_option linter.unusedSectionVars false
set_option linter.unnecessarySimpa false
namespace Go.Proofs.Ythodcjjgimeeoaa.P
open Go.AI
theorem zAP {step:List Int×Int×Int→Option ((List Int×Int×Int)⊕List Int)} {l:List Int} (hl:l.length≤2^40)
 (h:∀(i j:Nat) (c:List Int) (hi:i<c.length) (hj:j<c.length),c.length=l.length→i<j→step (c,(i:Int),(j:Int))=some (.inl ((c.set i c[j]).set j c[i],((i+1:Nat):Int),(j:Int)-1)))
 (he:∀(i j:Int) (c:List Int),j≤i→step (c,i,j)=some (.inr c)):zaR step (l,0,(l.length:Int)-1)=some l.reverse:=by
 have key:∀m (i:Nat) (c:List Int),l.length≤2*i+m→c.length=l.length→(∀k,k<l.length→c[k]? =if k<i∨l.length-1-i<k then l[l.length-1-k]? else l[k]?)→zaR step (c,(i:Int),(l.length:Int)-1-i)=some l.reverse:=by
  intro m
  induction m using Nat.strongRecOn with
  |_ m ih=>
   intro i c hm hc hk
   by_cases hij:(i:Int)<(l.length:Int)-1-i
   ·have hj:l.length-1-i<c.length:=by omega
    have hi:i<c.length:=by omega
    have hs:=h i (l.length-1-i) c hi hj hc (by omega)
    rw[show((l.length-1-i:Nat):Int)=(l.length:Int)-1-i by omega]at hs
    rw[zaH hs,show(l.length:Int)-1-i-1=(l.length:Int)-1-((i+1:Nat):Int) by omega]
    refine ih (m-1) (by omega) (i+1) _ (by omega) (by rw[List.length_set,List.length_set];exact hc) fun k hkl=> ?_
    have e1:c[i]? =l[i]? :=by rw[hk i (by omega),if_neg (by omega)]
    have e2:c[l.length-1-i]? =l[l.length-1-i]? :=by rw[hk _ (by omega),if_neg (by omega)]
    rw[List.getElem?_set,List.length_set]
    by_cases k1:l.length-1-i=k
    ·rw[if_pos k1,if_pos (by omega),if_pos (by omega),←List.getElem?_eq_getElem hi,e1,show l.length-1-k=i by omega]
    ·rw[if_neg k1,List.getElem?_set]
     by_cases k2:i=k
     ·rw[if_pos k2,if_pos (by omega),if_pos (by omega),←List.getElem?_eq_getElem hj,e2,show l.length-1-k=l.length-1-i by omega]
     ·rw[if_neg k2,hk k hkl]
      by_cases k3:k<i∨l.length-1-i<k
      ·rw[if_pos k3,if_pos (by omega)]
      ·rw[if_neg k3,if_neg (by omega)]
   ·rw[zaB (he _ _ c (by omega))]
    congr 1
    refine List.ext_getElem? fun k=> ?_
    rcases Nat.lt_or_ge k l.length with hkl|hkl
    ·rw[List.getElem?_reverse hkl,hk k hkl]
     split
     ·rfl
     ·rw[show l.length-1-k=k by omega]
    ·rw[List.getElem?_eq_none (by omega),List.getElem?_eq_none (by rw[List.length_reverse];exact hkl)]
 have:=key l.length 0 l (by omega) rfl (fun k hk=>by rw[if_neg (by omega)])
 rw[show(l.length:Int)-1-((0:Nat):Int)=(l.length:Int)-1 by omega]at this
 exact this
end Go.Proofs.Ythodcjjgimeeoaa.P
