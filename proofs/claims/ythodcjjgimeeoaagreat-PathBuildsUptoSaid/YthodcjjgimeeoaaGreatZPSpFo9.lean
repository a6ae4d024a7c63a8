/- Shaken copy of a longer text: what one law needs. Its conditions: none. -/
import Derived.Test.YthodcjjgimeeoaaGreatZPSpFo8
set_option linter.unusedSimpArgs false
set_option linter.unusedVariables false
set_option linter.unusedSimpArgs false
set_option linter.unusedVariables false
set_option linter.unusedSectionVars false
set_option linter.unnecessarySimpa false
namespace Go.Proofs.YthodcjjgimeeoaaGreat.P
open Go.AI
theorem ziM {f:List Node} {l:List Int}:zbH f l=0↔zaJ f∧∀h∈l,isN f h:=by
 unfold zbH
 by_cases hr:zaJ f
 ·rw[if_pos (zdv.2 hr)]
  by_cases ha:(l.all fun h=>decide (isN f h))=true
  ·rw[if_pos ha];simp only[true_iff];exact⟨hr,by simpa using ha⟩
  ·rw[if_neg ha];constructor
   ·intro h;cases h
   ·rintro⟨-,h⟩;exact absurd (by simpa using h) ha
 ·rw[if_neg (fun e=>hr (zdv.1 e))]
  constructor
  ·intro h;cases h
  ·rintro⟨h,-⟩;exact absurd h hr
theorem zAl (l:Sl Int) (x:Int) (hl:l.l.length≤2^40):pc prog 158 [.list l.n (l.l.map (D.int .i64)),.int .i64 x]=some (.int .i64 (idx l.l x)):=by
 refine zPD l x _ ?_
 unfold zPC idx
 rw[zdX (l:=l.l) (· ==x) (fun k=>Sum.inr (k:Int)) (Sum.inl ()) ?_ ?_,Option.bind_some]
 ·rcases List.findIdx? (· ==x) l.l with _|k<;>rfl
 ·intro k hk
  have hw:=zaK (show k<2^62 by omega)
  simp only[zdV,zbd hk,Option.bind_some,hw]
  rw[if_pos (decide_eq_true (by omega)),show(x==l.l[k])=(l.l[k]==x) by rw[Bool.eq_iff_iff,beq_iff_eq,beq_iff_eq];exact eq_comm]
  split<;>rfl
 ·simp only[zdV]
  rw[if_neg (by simp)]
theorem zhh (l:Sl Int) (x:Int) (hl:l.l.length≤2^40):pc prog 108 [.list l.n (l.l.map (D.int .i64)),.int .i64 x]=some (.int .i64 (idx l.l x)):=by
 refine zPF l x _ ?_
 unfold zPE idx
 rw[zdX (l:=l.l) (· ==x) (fun k=>Sum.inr (k:Int)) (Sum.inl ()) ?_ ?_,Option.bind_some]
 ·rcases List.findIdx? (· ==x) l.l with _|k<;>rfl
 ·intro k hk
  have hw:=zaK (show k<2^62 by omega)
  simp only[zdW,zbd hk,Option.bind_some,hw]
  rw[if_pos (decide_eq_true (by omega))]
  split<;>rfl
 ·simp only[zdW]
  rw[if_neg (by simp)]
theorem zeL (f:Forest) (h:Int) (hf:f.nodes.l.length≤2^40):pc prog 50 [zaa f,.int .i64 h]=some (zao (nodeD f.nodes.l h)):=by
 refine zQF f h _ ?_
 unfold P50
 rw[bor]
 by_cases hh:isN f.nodes.l h
 ·have hh':=hh
  unfold isN at hh'
  obtain⟨n,hn⟩:=zjS hh.1 hh.2
  rw[if_neg (by simp;omega),w64 (by omega) (by omega),ziG hn]
  unfold nodeD
  rw[hn];rfl
 ·rw[zfG hh,if_pos (by unfold isN at hh;simp;omega)];rfl
theorem zdk (f:Forest) (h:Int) (hf:f.nodes.l.length≤2^40) (hh:isN f.nodes.l h):pc prog 86 [zaa f,.int .i64 h]=some (zao (nodeD f.nodes.l h)):=by
 refine zQI f h _ ?_
 unfold P86
 have hh':=hh
 unfold isN at hh'
 obtain⟨n,hn⟩:=zjS hh.1 hh.2
 rw[w64 (by omega) (by omega),ziG hn]
 unfold nodeD
 rw[hn];rfl
theorem zhQ (f:Forest) (h:Int) (hf:Fit f.nodes.l) (hr:zaJ f.nodes.l) (hh:isN f.nodes.l h):pc prog 67 [zaa f,.int .i64 h]=some (.int .i64 (root f.nodes.l h)):=by
 refine zQG f h _ ?_
 unfold P67
 have key:∀h,isN f.nodes.l h→∀r,zaL (zdu f) (r,h)=some (root f.nodes.l h,0):=by
  refine zhf hr (fun h hh hk=>absurd hk hh) fun h hh ih _ r=> ?_
  have hne:(!(h==0))=true:=by unfold isN at hh;simp;omega
  rw[zaC (y:=(h,par f.nodes.l h))]
  ·by_cases hp:par f.nodes.l h=0
   ·rw[hp,zno hr hh hp]
    exact zau (by simp only[zdu];rfl)
   ·rw[znp hr hp];exact ih (zem hr hp).2.1 h
  ·simp only[zdu]
   rw[if_pos hne,zeL f _ hf.1,zap (e:=zao)];rfl
 rw[key h hh h];rfl
theorem zLm {f:List Node} (hr:zaJ f) (b:Int):par f b=0∨isN f (par f b):=by
 by_cases hp:par f b=0
 ·exact .inl hp
 ·exact .inr (zem hr hp).2.1
theorem zvA (f:Forest) (h:Int) (hf:Fit f.nodes.l) (hr:zaJ f.nodes.l) (hh:isN f.nodes.l h):pc prog 87 [zaa f,.int .i64 h]=some (.int .i64 (root f.nodes.l h)):=by
 refine zQB f h _ ?_
 unfold P87
 have key:∀h,isN f.nodes.l h→zaL (zdt f) h=some (root f.nodes.l h):=by
  refine zhf hr (fun h hh hk=>absurd hk hh) fun h hh ih _=> ?_
  have ho:=zdk f h hf.1 hh
  by_cases hp:par f.nodes.l h=0
  ·rw[zno hr hh hp]
   refine zau ?_
   simp only[zdt,ho,zap (e:=zao),Option.bind_some]
   rw[if_neg (by unfold par at hp;simp[hp])]
  ·rw[znp hr hp,zaC (y:=par f.nodes.l h)]
   ·exact ih (zem hr hp).2.1
   ·simp only[zdt,ho,zap (e:=zao),Option.bind_some]
    rw[if_pos (by unfold par at hp;simp[hp])];rfl
 rw[key h hh];rfl
theorem zry {f:List Node} (hr:zaJ f) {h:Int} (hh:isN f h):(zdw f h).length≤f.length:=by
 have hsub:zdw f h⊆(List.range f.length).map fun k:Nat=>((k:Int)+1):=by
  intro x hx
  have:=(zkW hr _ ((znq hr hh).1 hx)).2
  unfold isN at this
  rw[List.mem_map]
  exact⟨(x-1).toNat,List.mem_range.2 (by omega),by omega⟩
 have:=(zAk hr hh).length_le_of_subset hsub
 simpa using this
theorem zAm {α β:Type} {g:α→List β} {l:List α} {k:Nat} (hk:k<l.length):(l.take (k+1)).flatMap g=(l.take k).flatMap g++g l[k]:=by
 rw[List.take_succ_eq_append_getElem hk,List.flatMap_append];simp
theorem zPI {α β:Type} {g:α→List β} (l:List α) (k:Nat):((l.take k).flatMap g).length≤(l.flatMap g).length:=by
 conv=>rhs;rw[←List.take_append_drop k l]
 rw[List.flatMap_append,List.length_append];omega
theorem zAn (f:Forest) (hf:Fit f.nodes.l) (hr:zaJ f.nodes.l):∀h,isN f.nodes.l h→pc prog 145 [zaa f,.int .i64 h]=some (eSl (D.int .i64) ⟨false,zdw f.nodes.l h⟩):=by
 have hroom:AI.roomBytes=2^46:=rfl
 refine zhg hr fun h hh ih=> ?_
 refine zPH f h _ ?_
 unfold zPG
 rw[zdk f h hf.1 hh,zap (e:=zao),Option.bind_some]
 have hkl:=zjT hf h
 have hall:=zry hr hh
 have h40:=hr.1
 rw[all_in hr hh]at hall
 rw[List.length_cons]at hall
 have key:∀m k,k+m=(kidsL f.nodes.l h).length→zaL (zcX f (nodeD f.nodes.l h)) (h::((kidsL f.nodes.l h).take k).flatMap (zdw f.nodes.l),(k:Int))=some (h::(kidsL f.nodes.l h).flatMap (zdw f.nodes.l)):=by
  intro m
  induction m with
  |zero=>
   intro k hk
   obtain rfl:k=(kidsL f.nodes.l h).length:=by omega
   rw[List.take_length]
   refine zau ?_
   simp only[zcX]
   rw[if_neg (by show ¬(decide (((kidsL f.nodes.l h).length:Int)<((kidsL f.nodes.l h).length:Int))=true);simp)]
  |succ m ihm=>
   intro k hk
   have hlt:k<(kidsL f.nodes.l h).length:=by omega
   have hw:=zaK (show k<2^62 by unfold kidsL at hlt;omega)
   have hmem:(kidsL f.nodes.l h)[k]∈kidsL f.nodes.l h:=List.getElem_mem hlt
   have hkN:=(zcO hr hmem).2.1
   have hle:=zPI (g:=zdw f.nodes.l) (kidsL f.nodes.l h) (k+1)
   rw[zAm hlt,List.length_append]at hle
   have hrd:rd (nodeD f.nodes.l h).kids.l (k:Int)=some (kidsL f.nodes.l h)[k]:=zbd hlt
   rw[←ihm (k+1) (by omega),zAm hlt]
   refine zaC ?_
   simp only[zcX,hrd,Option.bind_some,ih _ hmem,zap (e:=eSl (D.int .i64)),hw]
   rw[if_pos (show decide ((k:Int)<((nodeD f.nodes.l h).kids.l.length:Int))=true by
    apply decide_eq_true;unfold kidsL at hlt;omega)]
   rw[if_neg (by rw[all_in hr hkN];simp),if_pos (by rw[hroom];simp only[List.length_cons];omega)]
   rfl
 have:=key (kidsL f.nodes.l h).length 0 (by omega)
 rw[show(((0:Nat):Int))=0 from rfl,List.take_zero,List.flatMap_nil]at this
 rw[this,←all_in hr hh];rfl
end Go.Proofs.YthodcjjgimeeoaaGreat.P
