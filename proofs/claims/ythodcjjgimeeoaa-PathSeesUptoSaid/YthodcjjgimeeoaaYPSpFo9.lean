/- Shaken copy of a longer text: what one law needs. Its conditions: none. -/
import Derived.Test.YthodcjjgimeeoaaYPSpFo8
set_option linter.unusedSimpArgs false
set_option linter.unusedVariables false
set_option linter.unusedSimpArgs false
set_option linter.unusedVariables false
set_option linter.unusedSectionVars false
set_option linter.unnecessarySimpa false
namespace Go.Proofs.Ythodcjjgimeeoaa.P
open Go.AI
theorem zBn (f:Forest) (h:Int) (hf:f.nodes.l.length≤2^40):pc prog 92 [zam f,.int .i64 h]=some (zaj (nodeD f.nodes.l h)):=by
 refine zKI f h _ ?_
 unfold P92
 rw[bor]
 by_cases hh:isN f.nodes.l h
 ·have hh':=hh
  unfold isN at hh'
  obtain⟨n,hn⟩:=ziv hh.1 hh.2
  rw[if_neg (by simp;omega),w64 (by omega) (by omega),zhf hn]
  unfold nodeD
  rw[hn];rfl
 ·rw[zno hh,if_pos (by unfold isN at hh;simp;omega)];rfl
theorem zBo (f:Forest) (h:Int) (hf:f.nodes.l.length≤2^40) (hh:isN f.nodes.l h):pc prog 100 [zam f,.int .i64 h]=some (zaj (nodeD f.nodes.l h)):=by
 refine zIL f h _ ?_
 unfold zIK
 have hh':=hh
 unfold isN at hh'
 obtain⟨n,hn⟩:=ziv hh.1 hh.2
 rw[w64 (by omega) (by omega),zhf hn]
 unfold nodeD
 rw[hn];rfl
theorem zAz (f:Forest) (h:Int) (hf:Fit f.nodes.l) (hr:zcE f.nodes.l) (hh:isN f.nodes.l h):pc prog 96 [zam f,.int .i64 h]=some (.int .i64 (root f.nodes.l h)):=by
 refine zKJ f h _ ?_
 unfold P96
 have key:∀h,isN f.nodes.l h→∀r,zaR (zdc f) (r,h)=some (root f.nodes.l h,0):=by
  refine zoU hr (fun h hh hk=>absurd hk hh) fun h hh ih _ r=> ?_
  have hne:(!(h==0))=true:=by unfold isN at hh;simp;omega
  rw[zaH (y:=(h,par f.nodes.l h))]
  ·by_cases hp:par f.nodes.l h=0
   ·rw[hp,zlr hr hh hp]
    exact zaB (by simp only[zdc];rfl)
   ·rw[zls hr hp];exact ih (zjs hr hp).2.1 h
  ·simp only[zdc]
   rw[if_pos hne,zBn f _ hf.1,zaz (e:=zaj)];rfl
 rw[key h hh h];rfl
theorem zsM (f:Forest) (h:Int) (hf:Fit f.nodes.l) (hr:zcE f.nodes.l) (hh:isN f.nodes.l h):pc prog 51 [zam f,.int .i64 h]=some (.int .i64 (root f.nodes.l h)):=by
 refine zKF f h _ ?_
 unfold P51
 have key:∀h,isN f.nodes.l h→zaR (zdb f) h=some (root f.nodes.l h):=by
  refine zoU hr (fun h hh hk=>absurd hk hh) fun h hh ih _=> ?_
  have ho:=zBo f h hf.1 hh
  by_cases hp:par f.nodes.l h=0
  ·rw[zlr hr hh hp]
   refine zaB ?_
   simp only[zdb,ho,zaz (e:=zaj),Option.bind_some]
   rw[if_neg (by unfold par at hp;simp[hp])]
  ·rw[zls hr hp,zaH (y:=par f.nodes.l h)]
   ·exact ih (zjs hr hp).2.1
   ·simp only[zdb,ho,zaz (e:=zaj),Option.bind_some]
    rw[if_pos (by unfold par at hp;simp[hp])];rfl
 rw[key h hh];rfl
end Go.Proofs.Ythodcjjgimeeoaa.P
