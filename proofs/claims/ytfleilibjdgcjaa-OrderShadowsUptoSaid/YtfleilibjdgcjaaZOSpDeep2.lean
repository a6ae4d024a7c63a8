/- Shaken copy of a longer text: what one law needs. Its conditions: none. -/
import Derived.Test.YtfleilibjdgcjaaZOSpDeep
import Derived.Test.YtfleilibjdgcjaaZOSpFoC
set_option linter.unusedSimpArgs false
set_option linter.unusedVariables false
set_option linter.unusedSimpArgs false
set_option linter.unusedVariables false
set_option linter.unusedSectionVars false
set_option linter.unnecessarySimpa false
namespace Go.Proofs.Ytfleilibjdgcjaa.O
open Go.AI
theorem zrW (f:Forest) (h:Int) (hf:Fit f.nodes.l):pc prog 59 [eForest f,.int .i64 h]=some (eT2 (eSl (D.int .i64)) (D.int .i64) (if zaI f.nodes.l [h]=0 then(⟨false,zbh f.nodes.l h⟩,0)else(⟨true,[]⟩,zaI f.nodes.l [h]))):=by
 refine zaV (fn:=c59) rfl rfl ?_
 delta c59
 simp only[go_sem]
 refine zbj (fn:=zGV) rfl rfl ?_
 delta zGV
 simp only[go_sem]
 refine zaj (zer f h hf) ?_
 simp only[go_sem]
 by_cases h0:zaI f.nodes.l [h]=0
 ·obtain⟨hr,hh⟩:=zaG.1 h0
  rw[if_pos h0,show(!(zaI f.nodes.l [h]==0))=false by simp[h0]]
  simp only[go_sem]
  refine zcv (fn:=zKb) rfl rfl ?_
  delta zKb
  simp only[go_sem]
  obtain⟨v',K',e1,G⟩:=zCp f hf hr h (hh h (by simp)) _ (.d (.list true [])) [] (.inl ⟨rfl,rfl⟩) (by have:=zjm hr (hh h (by simp));have:=hr.1;simp only[List.length_nil];omega)
  obtain⟨c,rfl,g2,g3,g4⟩:=G.out
  refine zeU e1 ?_
  simp only[go_sem]
  exact Reads.of (Rd.tuple' (RdL.cons (Rd.sl (e:=D.int .i64) (l:=zbh f.nodes.l h) (m:=encL (zbh f.nodes.l h)) (sz:=1) (fz:=0) (by simpa using g2) rfl rfl) (RdL.cons Rd.d RdL.nil))) rfl
 ·rw[if_neg h0,show(!(zaI f.nodes.l [h]==0))=true by simp[h0]]
  simp only[go_sem]
end Go.Proofs.Ytfleilibjdgcjaa.O
