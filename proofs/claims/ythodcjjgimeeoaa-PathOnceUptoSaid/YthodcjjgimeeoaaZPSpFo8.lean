/- Shaken copy of a longer text: what one law needs. Its conditions: none. -/
import Derived.Test.YthodcjjgimeeoaaZPSpFo7
set_option linter.unusedSimpArgs false
set_option linter.unusedVariables false
set_option linter.unusedSimpArgs false
set_option linter.unusedVariables false
set_option linter.unusedSectionVars false
set_option linter.unnecessarySimpa false
namespace Go.Proofs.Ythodcjjgimeeoaa.P
open Go.AI
def idx (l:List Int) (x:Int):Int:=match l.findIdx? (· ==x)with|some k=>(k:Int)|none=> -1
theorem zFc {l:List Int} {x:Int} {k:Nat} (h:l.findIdx? (· ==x)=some k):idx l x=k:=by unfold idx;rw[h]
theorem zlZ {l:List Int} {x:Int}:0≤idx l x↔x∈l:=by
 unfold idx
 rcases e:l.findIdx? (· ==x)with _|k
 ·rw[List.findIdx?_eq_none_iff]at e
  constructor
  ·intro h;exact absurd h (by simp)
  ·intro hx;have:=e x hx;simp at this
 ·rw[List.findIdx?_eq_some_iff_getElem]at e
  obtain⟨h1,h2,-⟩:=e
  simp only[beq_iff_eq]at h2
  constructor
  ·intro _;rw[←h2];exact List.getElem_mem _
  ·intro _;exact Int.natCast_nonneg k
theorem zFd {l:List Int} {x:Int} (h:x∉l):idx l x= -1:=by
 unfold idx
 rcases e:l.findIdx? (· ==x)with _|k
 ·rfl
 ·rw[List.findIdx?_eq_some_iff_getElem]at e
  obtain⟨h1,h2,-⟩:=e
  simp only[beq_iff_eq]at h2
  exact absurd (by rw[←h2];exact List.getElem_mem _) h
theorem zCH {l:List Int} (hn:l.Nodup) {i:Nat} (hi:i<l.length):idx l l[i]=i:=by
 refine zFc (List.findIdx?_eq_some_iff_getElem.2 ⟨hi,by simp,fun j hj=> ?_⟩)
 have:=List.pairwise_iff_getElem.1 (List.nodup_iff_pairwise_ne.1 hn) j i (by omega) hi hj
 simpa using this
theorem zFe {l:List Int} {x:Int} (h:x∈l):∃i:Nat,∃hi:i<l.length,l[i]=x∧idx l x=i:=by
 have h0:=zlZ.2 h
 unfold idx at h0⊢
 rcases e:l.findIdx? (· ==x)with _|k
 ·rw[e]at h0;exact absurd h0 (by simp)
 ·rw[List.findIdx?_eq_some_iff_getElem]at e
  obtain⟨h1,h2,-⟩:=e
  simp only[beq_iff_eq]at h2
  exact⟨k,h1,h2,rfl⟩
theorem zIg {l:List Int} {x:Int}:idx l x<l.length:=by
 by_cases h:x∈l
 ·obtain⟨i,hi,_,e⟩:=zFe h;omega
 ·rw[zFd h];omega
def plc (f:List Node) (h:Int):Int:=max (idx (kidsL f (par f h)) h) 0
def way (f:List Node) (h:Int):List Int:=((anc f h).map (plc f)).reverse
end Go.Proofs.Ythodcjjgimeeoaa.P
