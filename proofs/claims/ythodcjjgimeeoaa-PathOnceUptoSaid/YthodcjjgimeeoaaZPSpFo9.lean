/- Shaken copy of a longer text: what one law needs. Its conditions: none. -/
import Derived.Test.YthodcjjgimeeoaaZPSpFo8
set_option linter.unusedSimpArgs false
set_option linter.unusedVariables false
set_option linter.unusedSimpArgs false
set_option linter.unusedVariables false
set_option linter.unusedSectionVars false
set_option linter.unnecessarySimpa false
namespace Go.Proofs.Ythodcjjgimeeoaa.P
open Go.AI
theorem zfy {f:List Node} {l:List Int}:zbV f l=0↔zaK f∧∀h∈l,isN f h:=by
 unfold zbV
 by_cases hr:zaK f
 ·rw[if_pos (zdk.2 hr)]
  by_cases ha:(l.all fun h=>decide (isN f h))=true
  ·rw[if_pos ha];simp only[true_iff];exact⟨hr,by simpa using ha⟩
  ·rw[if_neg ha];constructor
   ·intro h;cases h
   ·rintro⟨-,h⟩;exact absurd (by simpa using h) ha
 ·rw[if_neg (fun e=>hr (zdk.1 e))]
  constructor
  ·intro h;cases h
  ·rintro⟨h,-⟩;exact absurd h hr
theorem zyl (l:Sl Int) (x:Int) (hl:l.l.length≤2^40):pc prog 180 [.list l.n (l.l.map (D.int .i64)),.int .i64 x]=some (.int .i64 (idx l.l x)):=by
 refine zLi l x _ ?_
 unfold zLh idx
 rw[zgR (l:=l.l) (· ==x) (fun k=>Sum.inr (k:Int)) (Sum.inl ()) ?_ ?_,Option.bind_some]
 ·rcases List.findIdx? (· ==x) l.l with _|k<;>rfl
 ·intro k hk
  have hw:=zba (show k<2^62 by omega)
  simp only[zdH,zbU hk,Option.bind_some,hw]
  rw[if_pos (decide_eq_true (by omega)),show(x==l.l[k])=(l.l[k]==x) by rw[Bool.eq_iff_iff,beq_iff_eq,beq_iff_eq];exact eq_comm]
  split<;>rfl
 ·simp only[zdH]
  rw[if_neg (by simp)]
theorem zeo (f:Forest) (h:Int) (hf:f.nodes.l.length≤2^40):pc prog 92 [zae f,.int .i64 h]=some (zam (nodeD f.nodes.l h)):=by
 refine zMh f h _ ?_
 unfold P92
 rw[bor]
 by_cases hh:isN f.nodes.l h
 ·have hh':=hh
  unfold isN at hh'
  obtain⟨n,hn⟩:=zlQ hh.1 hh.2
  rw[if_neg (by simp;omega),w64 (by omega) (by omega),zlR hn]
  unfold nodeD
  rw[hn];rfl
 ·rw[zeY hh,if_pos (by unfold isN at hh;simp;omega)];rfl
theorem zfz (f:Forest) (h:Int) (hf:Fit f.nodes.l) (hr:zaK f.nodes.l) (hh:isN f.nodes.l h):pc prog 96 [zae f,.int .i64 h]=some (.int .i64 (root f.nodes.l h)):=by
 refine zMi f h _ ?_
 unfold P96
 have key:∀h,isN f.nodes.l h→∀r,zaU (zdj f) (r,h)=some (root f.nodes.l h,0):=by
  refine zhH hr (fun h hh hk=>absurd hk hh) fun h hh ih _ r=> ?_
  have hne:(!(h==0))=true:=by unfold isN at hh;simp;omega
  rw[zaP (y:=(h,par f.nodes.l h))]
  ·by_cases hp:par f.nodes.l h=0
   ·rw[hp,zrs hr hh hp]
    exact zaH (by simp only[zdj];rfl)
   ·rw[zrt hr hp];exact ih (zeH hr hp).2.1 h
  ·simp only[zdj]
   rw[if_pos hne,zeo f _ hf.1,zaA (e:=zam)];rfl
 rw[key h hh h];rfl
theorem zIh {f:List Node} (hr:zaK f) (b:Int):par f b=0∨isN f (par f b):=by
 by_cases hp:par f b=0
 ·exact .inl hp
 ·exact .inr (zeH hr hp).2.1
end Go.Proofs.Ythodcjjgimeeoaa.P
