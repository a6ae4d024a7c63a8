/- Shaken copy of a longer text: what one law needs. Its conditions: none. -/
import Derived.Test.YthodcjjgimeeoaaZFSpFo8
set_option linter.unusedSimpArgs false
set_option linter.unusedVariables false
set_option linter.unusedSimpArgs false
set_option linter.unusedVariables false
set_option linter.unusedSectionVars false
set_option linter.unnecessarySimpa false
namespace Go.Proofs.Ythodcjjgimeeoaa.F
open Go.AI
theorem zdL {f:List Node} {l:List Int}:zbP f l=0↔zaU f∧∀h∈l,isN f h:=by
 unfold zbP
 by_cases hr:zaU f
 ·rw[if_pos (zha.2 hr)]
  by_cases ha:(l.all fun h=>decide (isN f h))=true
  ·rw[if_pos ha];simp only[true_iff];exact⟨hr,by simpa using ha⟩
  ·rw[if_neg ha];constructor
   ·intro h;cases h
   ·rintro⟨-,h⟩;exact absurd (by simpa using h) ha
 ·rw[if_neg (fun e=>hr (zha.1 e))]
  constructor
  ·intro h;cases h
  ·rintro⟨h,-⟩;exact absurd h hr
theorem zwc (f:Forest) (h:Int) (hf:f.nodes.l.length≤2^40):pc prog 92 [zai f,.int .i64 h]=some (zah (nodeD f.nodes.l h)):=by
 refine zJU f h _ ?_
 unfold P92
 rw[bor]
 by_cases hh:isN f.nodes.l h
 ·have hh':=hh
  unfold isN at hh'
  obtain⟨n,hn⟩:=zgl hh.1 hh.2
  rw[if_neg (by simp;omega),w64 (by omega) (by omega),zfB hn]
  unfold nodeD
  rw[hn];rfl
 ·rw[zep hh,if_pos (by unfold isN at hh;simp;omega)];rfl
theorem zzQ (f:Forest) (h:Int) (hf:f.nodes.l.length≤2^40) (hh:isN f.nodes.l h):pc prog 100 [zai f,.int .i64 h]=some (zah (nodeD f.nodes.l h)):=by
 refine zHA f h _ ?_
 unfold zHz
 have hh':=hh
 unfold isN at hh'
 obtain⟨n,hn⟩:=zgl hh.1 hh.2
 rw[w64 (by omega) (by omega),zfB hn]
 unfold nodeD
 rw[hn];rfl
theorem zzs (f:Forest) (h:Int) (hf:Fit f.nodes.l) (hr:zaU f.nodes.l) (hh:isN f.nodes.l h):pc prog 96 [zai f,.int .i64 h]=some (.int .i64 (root f.nodes.l h)):=by
 refine zJV f h _ ?_
 unfold P96
 have key:∀h,isN f.nodes.l h→∀r,zaR (zcN f) (r,h)=some (root f.nodes.l h,0):=by
  refine zfF hr (fun h hh hk=>absurd hk hh) fun h hh ih _ r=> ?_
  have hne:(!(h==0))=true:=by unfold isN at hh;simp;omega
  rw[zaT (y:=(h,par f.nodes.l h))]
  ·by_cases hp:par f.nodes.l h=0
   ·rw[hp,zla hr hh hp]
    exact zaG (by simp only[zcN];rfl)
   ·rw[zlb hr hp];exact ih (zfk hr hp).2.1 h
  ·simp only[zcN]
   rw[if_pos hne,zwc f _ hf.1,zav (e:=zah)];rfl
 rw[key h hh h];rfl
theorem zeT (f:Forest) (h:Int) (hf:Fit f.nodes.l) (hr:zaU f.nodes.l) (hh:isN f.nodes.l h):pc prog 51 [zai f,.int .i64 h]=some (.int .i64 (root f.nodes.l h)):=by
 refine zJQ f h _ ?_
 unfold P51
 have key:∀h,isN f.nodes.l h→zaR (zcM f) h=some (root f.nodes.l h):=by
  refine zfF hr (fun h hh hk=>absurd hk hh) fun h hh ih _=> ?_
  have ho:=zzQ f h hf.1 hh
  by_cases hp:par f.nodes.l h=0
  ·rw[zla hr hh hp]
   refine zaG ?_
   simp only[zcM,ho,zav (e:=zah),Option.bind_some]
   rw[if_neg (by unfold par at hp;simp[hp])]
  ·rw[zlb hr hp,zaT (y:=par f.nodes.l h)]
   ·exact ih (zfk hr hp).2.1
   ·simp only[zcM,ho,zav (e:=zah),Option.bind_some]
    rw[if_pos (by unfold par at hp;simp[hp])];rfl
 rw[key h hh];rfl
end Go.Proofs.Ythodcjjgimeeoaa.F
