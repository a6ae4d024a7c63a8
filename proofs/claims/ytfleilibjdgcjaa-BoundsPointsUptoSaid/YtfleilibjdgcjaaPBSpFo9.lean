/- Shaken copy of a longer text: what one law needs. Its conditions: none. -/
import Derived.Test.YtfleilibjdgcjaaPBSpFo8
set_option linter.unusedSimpArgs false
set_option linter.unusedVariables false
set_option linter.unusedSimpArgs false
set_option linter.unusedVariables false
set_option linter.unusedSectionVars false
set_option linter.unnecessarySimpa false
namespace Go.Proofs.Ytfleilibjdgcjaa.B
open Go.AI
theorem zex {f:List Node} {l:List Int}:zbj f l=0↔zaQ f∧∀h∈l,isN f h:=by
 unfold zbj
 by_cases hr:zaQ f
 ·rw[if_pos (zev.2 hr)]
  by_cases ha:(l.all fun h=>decide (isN f h))=true
  ·rw[if_pos ha];simp only[true_iff];exact⟨hr,by simpa using ha⟩
  ·rw[if_neg ha];constructor
   ·intro h;cases h
   ·rintro⟨-,h⟩;exact absurd (by simpa using h) ha
 ·rw[if_neg (fun e=>hr (zev.1 e))]
  constructor
  ·intro h;cases h
  ·rintro⟨h,-⟩;exact absurd h hr
theorem zzh (l:Sl Int) (x:Int) (hl:l.l.length≤2^40):pc prog 188 [.list l.n (l.l.map (D.int .i64)),.int .i64 x]=some (.int .i64 (idx l.l x)):=by
 refine zML l x _ ?_
 unfold zMK idx
 rw[zfh (l:=l.l) (· ==x) (fun k=>Sum.inr (k:Int)) (Sum.inl ()) ?_ ?_,Option.bind_some]
 ·rcases List.findIdx? (· ==x) l.l with _|k<;>rfl
 ·intro k hk
  have hw:=zaM (show k<2^62 by omega)
  simp only[zdA,zbo hk,Option.bind_some,hw]
  rw[if_pos (decide_eq_true (by omega)),show(x==l.l[k])=(l.l[k]==x) by rw[Bool.eq_iff_iff,beq_iff_eq,beq_iff_eq];exact eq_comm]
  split<;>rfl
 ·simp only[zdA]
  rw[if_neg (by simp)]
theorem zlw (f:Forest) (h:Int) (hf:f.nodes.l.length≤2^40):pc prog 91 [zad f,.int .i64 h]=some (zag (nodeD f.nodes.l h)):=by
 refine zON f h _ ?_
 unfold P91
 rw[bor]
 by_cases hh:isN f.nodes.l h
 ·have hh':=hh
  unfold isN at hh'
  obtain⟨n,hn⟩:=zjh hh.1 hh.2
  rw[if_neg (by simp;omega),w64 (by omega) (by omega),zif hn]
  unfold nodeD
  rw[hn];rfl
 ·rw[zht hh,if_pos (by unfold isN at hh;simp;omega)];rfl
theorem zJB (f:Forest) (h:Int) (hf:f.nodes.l.length≤2^40) (hh:isN f.nodes.l h):pc prog 128 [zad f,.int .i64 h]=some (zag (nodeD f.nodes.l h)):=by
 refine zMz f h _ ?_
 unfold zMy
 have hh':=hh
 unfold isN at hh'
 obtain⟨n,hn⟩:=zjh hh.1 hh.2
 rw[w64 (by omega) (by omega),zif hn]
 unfold nodeD
 rw[hn];rfl
theorem zzi (f:Forest) (h:Int) (hf:Fit f.nodes.l):pc prog 146 [zad f,.int .i64 h]=some (.int .i64 (plc f.nodes.l h)):=by
 refine zMB f h _ ?_
 unfold zMA
 simp only[zlw f _ hf.1,zat (e:=zag),Option.bind_some]
 rw[zzh _ _ (zjj hf _),zat (e:=D.int .i64),Option.bind_some];rfl
theorem zmK (f:Forest) (h:Int) (hf:Fit f.nodes.l) (hr:zaQ f.nodes.l) (hh:isN f.nodes.l h):pc prog 104 [zad f,.int .i64 h]=some (.int .i64 (root f.nodes.l h)):=by
 refine zMt f h _ ?_
 unfold zMs
 have key:∀h,isN f.nodes.l h→∀r,zaO (zcI f) (r,h)=some (root f.nodes.l h,0):=by
  refine zee hr (fun h hh hk=>absurd hk hh) fun h hh ih _ r=> ?_
  have hne:(!(h==0))=true:=by unfold isN at hh;simp;omega
  rw[zaZ (y:=(h,par f.nodes.l h))]
  ·by_cases hp:par f.nodes.l h=0
   ·rw[hp,zjl hr hh hp]
    exact zaK (by simp only[zcI];rfl)
   ·rw[zjm hr hp];exact ih (zeT hr hp).2.1 h
  ·simp only[zcI]
   rw[if_pos hne,zlw f _ hf.1,zat (e:=zag)];rfl
 rw[key h hh h];rfl
theorem zJC {f:List Node} (hr:zaQ f) (b:Int):par f b=0∨isN f (par f b):=by
 by_cases hp:par f b=0
 ·exact .inl hp
 ·exact .inr (zeT hr hp).2.1
theorem zim (f:Forest) (h:Int) (hf:Fit f.nodes.l) (hr:zaQ f.nodes.l) (hh:isN f.nodes.l h):pc prog 125 [zad f,.int .i64 h]=some (.int .i64 (root f.nodes.l h)):=by
 refine zMx f h _ ?_
 unfold zMw
 have key:∀h,isN f.nodes.l h→zaO (zcJ f) h=some (root f.nodes.l h):=by
  refine zee hr (fun h hh hk=>absurd hk hh) fun h hh ih _=> ?_
  have ho:=zJB f h hf.1 hh
  by_cases hp:par f.nodes.l h=0
  ·rw[zjl hr hh hp]
   refine zaK ?_
   simp only[zcJ,ho,zat (e:=zag),Option.bind_some]
   rw[if_neg (by unfold par at hp;simp[hp])]
  ·rw[zjm hr hp,zaZ (y:=par f.nodes.l h)]
   ·exact ih (zeT hr hp).2.1
   ·simp only[zcJ,ho,zat (e:=zag),Option.bind_some]
    rw[if_pos (by unfold par at hp;simp[hp])];rfl
 rw[key h hh];rfl
theorem zzj {f:List Node} (hr:zaQ f) {h:Int} (hh:isN f h):(zii f h).length≤f.length:=by
 have hsub:zii f h⊆(List.range f.length).map fun k:Nat=>((k:Int)+1):=by
  intro x hx
  have:=(zmI hr _ ((zze hr hh).1 hx)).2
  unfold isN at this
  rw[List.mem_map]
  exact⟨(x-1).toNat,List.mem_range.2 (by omega),by omega⟩
 have:=(zzf hr hh).length_le_of_subset hsub
 simpa using this
theorem zGl {α β:Type} {g:α→List β} {l:List α} {k:Nat} (hk:k<l.length):(l.take (k+1)).flatMap g=(l.take k).flatMap g++g l[k]:=by
 rw[List.take_succ_eq_append_getElem hk,List.flatMap_append];simp
end Go.Proofs.Ytfleilibjdgcjaa.B
