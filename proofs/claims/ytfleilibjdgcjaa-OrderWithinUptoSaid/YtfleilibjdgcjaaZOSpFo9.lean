/- Shaken copy of a longer text: what one law needs. Its conditions: none. -/
import Derived.Test.YtfleilibjdgcjaaZOSpFo8
set_option linter.unusedSimpArgs false
set_option linter.unusedVariables false
set_option linter.unusedSimpArgs false
set_option linter.unusedVariables false
set_option linter.unusedSectionVars false
set_option linter.unnecessarySimpa false
namespace Go.Proofs.Ytfleilibjdgcjaa.O
open Go.AI
theorem zaG {f:List Node} {l:List Int}:zaI f l=0↔zaO f∧∀h∈l,isN f h:=by
 unfold zaI
 by_cases hr:zaO f
 ·rw[if_pos (zii.2 hr)]
  by_cases ha:(l.all fun h=>decide (isN f h))=true
  ·rw[if_pos ha];simp only[true_iff];exact⟨hr,by simpa using ha⟩
  ·rw[if_neg ha];constructor
   ·intro h;cases h
   ·rintro⟨-,h⟩;exact absurd (by simpa using h) ha
 ·rw[if_neg (fun e=>hr (zii.1 e))]
  constructor
  ·intro h;cases h
  ·rintro⟨h,-⟩;exact absurd h hr
theorem zoS (l:Sl Int) (x:Int) (hl:l.l.length≤2^40):pc prog 188 [.list l.n (l.l.map (D.int .i64)),.int .i64 x]=some (.int .i64 (idx l.l x)):=by
 refine zMb l x _ ?_
 unfold zMa idx
 rw[zem (l:=l.l) (· ==x) (fun k=>Sum.inr (k:Int)) (Sum.inl ()) ?_ ?_,Option.bind_some]
 ·rcases List.findIdx? (· ==x) l.l with _|k<;>rfl
 ·intro k hk
  have hw:=zaT (show k<2^62 by omega)
  simp only[zds,zby hk,Option.bind_some,hw]
  rw[if_pos (decide_eq_true (by omega)),show(x==l.l[k])=(l.l[k]==x) by rw[Bool.eq_iff_iff,beq_iff_eq,beq_iff_eq];exact eq_comm]
  split<;>rfl
 ·simp only[zds]
  rw[if_neg (by simp)]
theorem zdC (f:Forest) (h:Int) (hf:f.nodes.l.length≤2^40):pc prog 91 [eForest f,.int .i64 h]=some (eNode (nodeD f.nodes.l h)):=by
 refine zNK f h _ ?_
 unfold P91
 rw[bor]
 by_cases hh:isN f.nodes.l h
 ·have hh':=hh
  unfold isN at hh'
  obtain⟨n,hn⟩:=zhj hh.1 hh.2
  rw[if_neg (by simp;omega),w64 (by omega) (by omega),zgD hn]
  unfold nodeD
  rw[hn];rfl
 ·rw[zfe hh,if_pos (by unfold isN at hh;simp;omega)];rfl
theorem zyG (f:Forest) (h:Int) (hf:f.nodes.l.length≤2^40) (hh:isN f.nodes.l h):pc prog 128 [eForest f,.int .i64 h]=some (eNode (nodeD f.nodes.l h)):=by
 refine zLB f h _ ?_
 unfold zLA
 have hh':=hh
 unfold isN at hh'
 obtain⟨n,hn⟩:=zhj hh.1 hh.2
 rw[w64 (by omega) (by omega),zgD hn]
 unfold nodeD
 rw[hn];rfl
theorem zoT (f:Forest) (h:Int) (hf:Fit f.nodes.l):pc prog 146 [eForest f,.int .i64 h]=some (.int .i64 (plc f.nodes.l h)):=by
 refine zLJ f h _ ?_
 unfold zLI
 simp only[zdC f _ hf.1,zap (e:=eNode),Option.bind_some]
 rw[zoS _ _ (zdN hf _),zap (e:=D.int .i64),Option.bind_some];rfl
theorem zmE (f:Forest) (h:Int) (hf:Fit f.nodes.l) (hr:zaO f.nodes.l) (hh:isN f.nodes.l h):pc prog 104 [eForest f,.int .i64 h]=some (.int .i64 (root f.nodes.l h)):=by
 refine zLt f h _ ?_
 unfold zLs
 have key:∀h,isN f.nodes.l h→∀r,zaQ (zcI f) (r,h)=some (root f.nodes.l h,0):=by
  refine zcM hr (fun h hh hk=>absurd hk hh) fun h hh ih _ r=> ?_
  have hne:(!(h==0))=true:=by unfold isN at hh;simp;omega
  rw[zaM (y:=(h,par f.nodes.l h))]
  ·by_cases hp:par f.nodes.l h=0
   ·rw[hp,zji hr hh hp]
    exact zaz (by simp only[zcI];rfl)
   ·rw[zjj hr hp];exact ih (zeO hr hp).2.1 h
  ·simp only[zcI]
   rw[if_pos hne,zdC f _ hf.1,zap (e:=eNode)];rfl
 rw[key h hh h];rfl
theorem zff (f:Forest) (a b:Int) (hf:Fit f.nodes.l) (hr:zaO f.nodes.l) (hb:b=0∨isN f.nodes.l b):pc prog 86 [eForest f,.int .i64 a,.int .i64 b]=some (.bool (decide (a∈anc f.nodes.l b))):=by
 refine zNI f a b _ ?_
 unfold P86
 have key:∀b,(b=0∨isN f.nodes.l b)→zaQ (zcl f a) b=some (if a∈anc f.nodes.l b then .inr a else .inl 0):=by
  have hz:zaQ (zcl f a) 0=some (.inl 0):=zaz (by simp only[zcl];rfl)
  refine zcM hr (fun b hb hk=> ?_) fun b hb ih _=> ?_
  ·obtain rfl:=hk.resolve_right hb
   rw[zcN zbB,hz];rfl
  ·have hne:(!(b==0))=true:=by unfold isN at hb;simp;omega
   rw[zcn hr hb]
   by_cases e:b=a
   ·subst e
    rw[if_pos List.mem_cons_self]
    refine zaz ?_
    simp only[zcl]
    rw[if_pos hne,if_pos (by simp)]
   ·rw[zaM (y:=par f.nodes.l b)]
    ·have hm:(a∈b::anc f.nodes.l (par f.nodes.l b))=(a∈anc f.nodes.l (par f.nodes.l b)):=by
      rw[List.mem_cons];exact propext ⟨fun h=>h.resolve_left (fun x=>e x.symm),.inr⟩
     simp only[hm]
     refine ih ?_
     by_cases hp:par f.nodes.l b=0
     ·exact .inl hp
     ·exact .inr (zeO hr hp).2.1
    ·simp only[zcl]
     rw[if_pos hne,if_neg (by simpa using e),zdC f _ hf.1,zap (e:=eNode)];rfl
 rw[key b hb,Option.bind_some]
 by_cases h:a∈anc f.nodes.l b
 ·rw[if_pos h,decide_eq_true h]
 ·rw[if_neg h,decide_eq_false h]
def comm (f:List Node) (a b:Int):Int:=((anc f a).find? fun x=>decide (x∈anc f b)).getD 0
theorem zyH {f:List Node} (hr:zaO f) (b:Int):par f b=0∨isN f (par f b):=by
 by_cases hp:par f b=0
 ·exact .inl hp
 ·exact .inr (zeO hr hp).2.1
theorem zmF {f:List Node} (hr:zaO f) {h:Int} (hh:isN f h):(zbG f h).length≤f.length:=by
 have hsub:zbG f h⊆(List.range f.length).map fun k:Nat=>((k:Int)+1):=by
  intro x hx
  have:=(zmz hr _ ((zmB hr hh).1 hx)).2
  unfold isN at this
  rw[List.mem_map]
  exact⟨(x-1).toNat,List.mem_range.2 (by omega),by omega⟩
 have:=(zoQ hr hh).length_le_of_subset hsub
 simpa using this
theorem zmG {α β:Type} {g:α→List β} {l:List α} {k:Nat} (hk:k<l.length):(l.take (k+1)).flatMap g=(l.take k).flatMap g++g l[k]:=by
 rw[List.take_succ_eq_append_getElem hk,List.flatMap_append];simp
theorem zIV {α β:Type} {g:α→List β} (l:List α) (k:Nat):((l.take k).flatMap g).length≤(l.flatMap g).length:=by
 conv=>rhs;rw[←List.take_append_drop k l]
 rw[List.flatMap_append,List.length_append];omega
end Go.Proofs.Ytfleilibjdgcjaa.O
