/- Shaken copy of a longer text: what one law needs. Its conditions: none. -/
import Derived.Test.YtfleilibjdgcjaaYVSpFo8
set_option linter.unusedSimpArgs false
set_option linter.unusedVariables false
set_option linter.unusedSimpArgs false
set_option linter.unusedVariables false
set_option linter.unusedSectionVars false
set_option linter.unnecessarySimpa false
namespace Go.Proofs.Ytfleilibjdgcjaa.V
open Go.AI
theorem zcd {f:List Node} {l:List Int}:zbg f l=0↔zbK f∧∀h∈l,isN f h:=by
 unfold zbg
 by_cases hr:zbK f
 ·rw[if_pos (zei.2 hr)]
  by_cases ha:(l.all fun h=>decide (isN f h))=true
  ·rw[if_pos ha];simp only[true_iff];exact⟨hr,by simpa using ha⟩
  ·rw[if_neg ha];constructor
   ·intro h;cases h
   ·rintro⟨-,h⟩;exact absurd (by simpa using h) ha
 ·rw[if_neg (fun e=>hr (zei.1 e))]
  constructor
  ·intro h;cases h
  ·rintro⟨h,-⟩;exact absurd h hr
theorem zxq (l:Sl Int) (x:Int) (hl:l.l.length≤2^40):pc prog 188 [.list l.n (l.l.map (D.int .i64)),.int .i64 x]=some (.int .i64 (idx l.l x)):=by
 refine zKl l x _ ?_
 unfold zKk idx
 rw[zdy (l:=l.l) (· ==x) (fun k=>Sum.inr (k:Int)) (Sum.inl ()) ?_ ?_,Option.bind_some]
 ·rcases List.findIdx? (· ==x) l.l with _|k<;>rfl
 ·intro k hk
  have hw:=zaJ (show k<2^62 by omega)
  simp only[zdo,zbA hk,Option.bind_some,hw]
  rw[if_pos (decide_eq_true (by omega)),show(x==l.l[k])=(l.l[k]==x) by rw[Bool.eq_iff_iff,beq_iff_eq,beq_iff_eq];exact eq_comm]
  split<;>rfl
 ·simp only[zdo]
  rw[if_neg (by simp)]
theorem zjW (l:Sl Int) (x:Int) (hl:l.l.length≤2^40):pc prog 126 [.list l.n (l.l.map (D.int .i64)),.int .i64 x]=some (.int .i64 (idx l.l x)):=by
 refine zJT l x _ ?_
 unfold zJS idx
 rw[zdy (l:=l.l) (· ==x) (fun k=>Sum.inr (k:Int)) (Sum.inl ()) ?_ ?_,Option.bind_some]
 ·rcases List.findIdx? (· ==x) l.l with _|k<;>rfl
 ·intro k hk
  have hw:=zaJ (show k<2^62 by omega)
  simp only[zdl,zbA hk,Option.bind_some,hw]
  rw[if_pos (decide_eq_true (by omega))]
  split<;>rfl
 ·simp only[zdl]
  rw[if_neg (by simp)]
theorem zcz (f:Forest) (h:Int) (hf:f.nodes.l.length≤2^40):pc prog 91 [zad f,.int .i64 h]=some (zah (nodeD f.nodes.l h)):=by
 refine zMj f h _ ?_
 unfold P91
 rw[bor]
 by_cases hh:isN f.nodes.l h
 ·have hh':=hh
  unfold isN at hh'
  obtain⟨n,hn⟩:=ziQ hh.1 hh.2
  rw[if_neg (by simp;omega),w64 (by omega) (by omega),zhP hn]
  unfold nodeD
  rw[hn];rfl
 ·rw[zeQ hh,if_pos (by unfold isN at hh;simp;omega)];rfl
theorem znZ (f:Forest) (h:Int) (hf:f.nodes.l.length≤2^40) (hh:isN f.nodes.l h):pc prog 128 [zad f,.int .i64 h]=some (zah (nodeD f.nodes.l h)):=by
 refine zJV f h _ ?_
 unfold zJU
 have hh':=hh
 unfold isN at hh'
 obtain⟨n,hn⟩:=ziQ hh.1 hh.2
 rw[w64 (by omega) (by omega),zhP hn]
 unfold nodeD
 rw[hn];rfl
theorem zxr {α β:Type} {g:α→List β} {l:List α} {k:Nat} (hk:k<l.length):(l.take (k+1)).flatMap g=(l.take k).flatMap g++g l[k]:=by
 rw[List.take_succ_eq_append_getElem hk,List.flatMap_append];simp
theorem zLf {α β:Type} {g:α→List β} (l:List α) (k:Nat):((l.take k).flatMap g).length≤(l.flatMap g).length:=by
 conv=>rhs;rw[←List.take_append_drop k l]
 rw[List.flatMap_append,List.length_append];omega
end Go.Proofs.Ytfleilibjdgcjaa.V
