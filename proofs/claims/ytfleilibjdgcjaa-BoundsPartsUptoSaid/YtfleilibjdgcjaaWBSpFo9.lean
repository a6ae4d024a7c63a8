/- Shaken copy of a longer text: what one law needs. Its conditions: none. -/
import Derived.Test.YtfleilibjdgcjaaWBSpFo8
set_option linter.unusedSimpArgs false
set_option linter.unusedVariables false
set_option linter.unusedSimpArgs false
set_option linter.unusedVariables false
set_option linter.unusedSectionVars false
set_option linter.unnecessarySimpa false
namespace Go.Proofs.Ytfleilibjdgcjaa.B
open Go.AI
theorem zdQ {f:List Node} {l:List Int}:zcD f l=0↔zaI f∧∀h∈l,isN f h:=by
 unfold zcD
 by_cases hr:zaI f
 ·rw[if_pos (zhk.2 hr)]
  by_cases ha:(l.all fun h=>decide (isN f h))=true
  ·rw[if_pos ha];simp only[true_iff];exact⟨hr,by simpa using ha⟩
  ·rw[if_neg ha];constructor
   ·intro h;cases h
   ·rintro⟨-,h⟩;exact absurd (by simpa using h) ha
 ·rw[if_neg (fun e=>hr (zhk.1 e))]
  constructor
  ·intro h;cases h
  ·rintro⟨h,-⟩;exact absurd h hr
theorem zwJ (l:Sl Int) (x:Int) (hl:l.l.length≤2^40):pc prog 188 [.list l.n (l.l.map (D.int .i64)),.int .i64 x]=some (.int .i64 (idx l.l x)):=by
 refine zIQ l x _ ?_
 unfold zIP idx
 rw[zjc (l:=l.l) (· ==x) (fun k=>Sum.inr (k:Int)) (Sum.inl ()) ?_ ?_,Option.bind_some]
 ·rcases List.findIdx? (· ==x) l.l with _|k<;>rfl
 ·intro k hk
  have hw:=zbc (show k<2^62 by omega)
  simp only[zde,zdq hk,Option.bind_some,hw]
  rw[if_pos (decide_eq_true (by omega)),show(x==l.l[k])=(l.l[k]==x) by rw[Bool.eq_iff_iff,beq_iff_eq,beq_iff_eq];exact eq_comm]
  split<;>rfl
 ·simp only[zde]
  rw[if_neg (by simp)]
theorem zhH (f:Forest) (h:Int) (hf:f.nodes.l.length≤2^40):pc prog 91 [zac f,.int .i64 h]=some (zap (nodeD f.nodes.l h)):=by
 refine zKA f h _ ?_
 unfold P91
 rw[bor]
 by_cases hh:isN f.nodes.l h
 ·have hh':=hh
  unfold isN at hh'
  obtain⟨n,hn⟩:=zlq hh.1 hh.2
  rw[if_neg (by simp;omega),w64 (by omega) (by omega),zlr hn]
  unfold nodeD
  rw[hn];rfl
 ·rw[zgx hh,if_pos (by unfold isN at hh;simp;omega)];rfl
theorem zny (f:Forest) (h:Int) (hf:Fit f.nodes.l):pc prog 146 [zac f,.int .i64 h]=some (.int .i64 (plc f.nodes.l h)):=by
 refine zIM f h _ ?_
 unfold zIL
 simp only[zhH f _ hf.1,zav (e:=zap),Option.bind_some]
 rw[zwJ _ _ (zig hf _),zav (e:=D.int .i64),Option.bind_some];rfl
theorem zlA (f:Forest) (h:Int) (hf:Fit f.nodes.l) (hr:zaI f.nodes.l) (hh:isN f.nodes.l h):pc prog 104 [zac f,.int .i64 h]=some (.int .i64 (root f.nodes.l h)):=by
 refine zIK f h _ ?_
 unfold zIJ
 have key:∀h,isN f.nodes.l h→∀r,zaT (zcu f) (r,h)=some (root f.nodes.l h,0):=by
  refine zdC hr (fun h hh hk=>absurd hk hh) fun h hh ih _ r=> ?_
  have hne:(!(h==0))=true:=by unfold isN at hh;simp;omega
  rw[zaY (y:=(h,par f.nodes.l h))]
  ·by_cases hp:par f.nodes.l h=0
   ·rw[hp,zly hr hh hp]
    exact zaM (by simp only[zcu];rfl)
   ·rw[zih hr hp];exact ih (zdP hr hp).2.1 h
  ·simp only[zcu]
   rw[if_pos hne,zhH f _ hf.1,zav (e:=zap)];rfl
 rw[key h hh h];rfl
theorem znz (f:Forest) (a b:Int) (hf:Fit f.nodes.l) (hr:zaI f.nodes.l) (hb:b=0∨isN f.nodes.l b):pc prog 86 [zac f,.int .i64 a,.int .i64 b]=some (.bool (decide (a∈anc f.nodes.l b))):=by
 refine zKy f a b _ ?_
 unfold P86
 have key:∀b,(b=0∨isN f.nodes.l b)→zaT (zcd f a) b=some (if a∈anc f.nodes.l b then .inr a else .inl 0):=by
  have hz:zaT (zcd f a) 0=some (.inl 0):=zaM (by simp only[zcd];rfl)
  refine zdC hr (fun b hb hk=> ?_) fun b hb ih _=> ?_
  ·obtain rfl:=hk.resolve_right hb
   rw[zcI zcA,hz];rfl
  ·have hne:(!(b==0))=true:=by unfold isN at hb;simp;omega
   rw[zdk hr hb]
   by_cases e:b=a
   ·subst e
    rw[if_pos List.mem_cons_self]
    refine zaM ?_
    simp only[zcd]
    rw[if_pos hne,if_pos (by simp)]
   ·rw[zaY (y:=par f.nodes.l b)]
    ·have hm:(a∈b::anc f.nodes.l (par f.nodes.l b))=(a∈anc f.nodes.l (par f.nodes.l b)):=by
      rw[List.mem_cons];exact propext ⟨fun h=>h.resolve_left (fun x=>e x.symm),.inr⟩
     simp only[hm]
     refine ih ?_
     by_cases hp:par f.nodes.l b=0
     ·exact .inl hp
     ·exact .inr (zdP hr hp).2.1
    ·simp only[zcd]
     rw[if_pos hne,if_neg (by simpa using e),zhH f _ hf.1,zav (e:=zap)];rfl
 rw[key b hb,Option.bind_some]
 by_cases h:a∈anc f.nodes.l b
 ·rw[if_pos h,decide_eq_true h]
 ·rw[if_neg h,decide_eq_false h]
theorem zGC {f:List Node} (hr:zaI f) (b:Int):par f b=0∨isN f (par f b):=by
 by_cases hp:par f b=0
 ·exact .inl hp
 ·exact .inr (zdP hr hp).2.1
theorem zwK {f:List Node} (hr:zaI f) {h:Int} (hh:isN f h):(zhl f h).length≤f.length:=by
 have hsub:zhl f h⊆(List.range f.length).map fun k:Nat=>((k:Int)+1):=by
  intro x hx
  have:=(zlx hr _ ((zwG hr hh).1 hx)).2
  unfold isN at this
  rw[List.mem_map]
  exact⟨(x-1).toNat,List.mem_range.2 (by omega),by omega⟩
 have:=(zwH hr hh).length_le_of_subset hsub
 simpa using this
theorem zDj {α β:Type} {g:α→List β} {l:List α} {k:Nat} (hk:k<l.length):(l.take (k+1)).flatMap g=(l.take k).flatMap g++g l[k]:=by
 rw[List.take_succ_eq_append_getElem hk,List.flatMap_append];simp
end Go.Proofs.Ytfleilibjdgcjaa.B
