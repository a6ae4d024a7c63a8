/- Shaken copy of a longer text: what one law needs. Its conditions: none. -/
import Derived.Test.YtfleilibjdgcjaaZOSpFo8
set_option linter.unusedSimpArgs false
set_option linter.unusedVariables false
set_option linter.unusedSimpArgs false
set_option linter.unusedVariables false
set_option linter.unusedSectionVars false
set_option linter.unnecessarySimpa false
namespace Go.Proofs.Ytfleilibjdgcjaa.O
open Go.AI
theorem zdT {f:List Node} {l:List Int}:zbE f l=0↔zbf f∧∀h∈l,isN f h:=by
 unfold zbE
 by_cases hr:zbf f
 ·rw[if_pos (zhr.2 hr)]
  by_cases ha:(l.all fun h=>decide (isN f h))=true
  ·rw[if_pos ha];simp only[true_iff];exact⟨hr,by simpa using ha⟩
  ·rw[if_neg ha];constructor
   ·intro h;cases h
   ·rintro⟨-,h⟩;exact absurd (by simpa using h) ha
 ·rw[if_neg (fun e=>hr (zhr.1 e))]
  constructor
  ·intro h;cases h
  ·rintro⟨h,-⟩;exact absurd h hr
theorem zwU (l:Sl Int) (x:Int) (hl:l.l.length≤2^40):pc prog 188 [.list l.n (l.l.map (D.int .i64)),.int .i64 x]=some (.int .i64 (idx l.l x)):=by
 refine zKG l x _ ?_
 unfold zKF idx
 rw[zdQ (l:=l.l) (· ==x) (fun k=>Sum.inr (k:Int)) (Sum.inl ()) ?_ ?_,Option.bind_some]
 ·rcases List.findIdx? (· ==x) l.l with _|k<;>rfl
 ·intro k hk
  have hw:=zaY (show k<2^62 by omega)
  simp only[zdf,zbU hk,Option.bind_some,hw]
  rw[if_pos (decide_eq_true (by omega)),show(x==l.l[k])=(l.l[k]==x) by rw[Bool.eq_iff_iff,beq_iff_eq,beq_iff_eq];exact eq_comm]
  split<;>rfl
 ·simp only[zdf]
  rw[if_neg (by simp)]
theorem zfY (l:Sl Int) (x:Int) (hl:l.l.length≤2^40):pc prog 126 [.list l.n (l.l.map (D.int .i64)),.int .i64 x]=some (.int .i64 (idx l.l x)):=by
 refine zKo l x _ ?_
 unfold zKn idx
 rw[zdQ (l:=l.l) (· ==x) (fun k=>Sum.inr (k:Int)) (Sum.inl ()) ?_ ?_,Option.bind_some]
 ·rcases List.findIdx? (· ==x) l.l with _|k<;>rfl
 ·intro k hk
  have hw:=zaY (show k<2^62 by omega)
  simp only[zdc,zbU hk,Option.bind_some,hw]
  rw[if_pos (decide_eq_true (by omega))]
  split<;>rfl
 ·simp only[zdc]
  rw[if_neg (by simp)]
theorem zkh (f:Forest) (h:Int) (hf:f.nodes.l.length≤2^40):pc prog 91 [zae f,.int .i64 h]=some (zai (nodeD f.nodes.l h)):=by
 refine zNa f h _ ?_
 unfold P91
 rw[bor]
 by_cases hh:isN f.nodes.l h
 ·have hh':=hh
  unfold isN at hh'
  obtain⟨n,hn⟩:=zin hh.1 hh.2
  rw[if_neg (by simp;omega),w64 (by omega) (by omega),zhn hn]
  unfold nodeD
  rw[hn];rfl
 ·rw[zjm hh,if_pos (by unfold isN at hh;simp;omega)];rfl
theorem zqr (f:Forest) (h:Int) (hf:f.nodes.l.length≤2^40) (hh:isN f.nodes.l h):pc prog 128 [zae f,.int .i64 h]=some (zai (nodeD f.nodes.l h)):=by
 refine zKs f h _ ?_
 unfold zKr
 have hh':=hh
 unfold isN at hh'
 obtain⟨n,hn⟩:=zin hh.1 hh.2
 rw[w64 (by omega) (by omega),zhn hn]
 unfold nodeD
 rw[hn];rfl
theorem znu (f:Forest) (h:Int) (hf:Fit f.nodes.l):pc prog 146 [zae f,.int .i64 h]=some (.int .i64 (plc f.nodes.l h)):=by
 refine zKu f h _ ?_
 unfold zKt
 simp only[zkh f _ hf.1,zas (e:=zai),Option.bind_some]
 rw[zwU _ _ (zio hf _),zas (e:=D.int .i64),Option.bind_some];rfl
theorem zqs (f:Forest) (h:Int) (hf:Fit f.nodes.l) (hr:zbf f.nodes.l) (hh:isN f.nodes.l h):pc prog 104 [zae f,.int .i64 h]=some (.int .i64 (root f.nodes.l h)):=by
 refine zKc f h _ ?_
 unfold zKb
 have key:∀h,isN f.nodes.l h→∀r,zaP (zcv f) (r,h)=some (root f.nodes.l h,0):=by
  refine zcJ hr (fun h hh hk=>absurd hk hh) fun h hh ih _ r=> ?_
  have hne:(!(h==0))=true:=by unfold isN at hh;simp;omega
  rw[zaQ (y:=(h,par f.nodes.l h))]
  ·by_cases hp:par f.nodes.l h=0
   ·rw[hp,ziq hr hh hp]
    exact zaD (by simp only[zcv];rfl)
   ·rw[zir hr hp];exact ih (zdS hr hp).2.1 h
  ·simp only[zcv]
   rw[if_pos hne,zkh f _ hf.1,zas (e:=zai)];rfl
 rw[key h hh h];rfl
theorem zew (f:Forest) (a b:Int) (hf:Fit f.nodes.l) (hr:zbf f.nodes.l) (hb:b=0∨isN f.nodes.l b):pc prog 86 [zae f,.int .i64 a,.int .i64 b]=some (.bool (decide (a∈anc f.nodes.l b))):=by
 refine zMY f a b _ ?_
 unfold P86
 have key:∀b,(b=0∨isN f.nodes.l b)→zaP (zcd f a) b=some (if a∈anc f.nodes.l b then .inr a else .inl 0):=by
  have hz:zaP (zcd f a) 0=some (.inl 0):=zaD (by simp only[zcd];rfl)
  refine zcJ hr (fun b hb hk=> ?_) fun b hb ih _=> ?_
  ·obtain rfl:=hk.resolve_right hb
   rw[zcK zbT,hz];rfl
  ·have hne:(!(b==0))=true:=by unfold isN at hb;simp;omega
   rw[zcn hr hb]
   by_cases e:b=a
   ·subst e
    rw[if_pos List.mem_cons_self]
    refine zaD ?_
    simp only[zcd]
    rw[if_pos hne,if_pos (by simp)]
   ·rw[zaQ (y:=par f.nodes.l b)]
    ·have hm:(a∈b::anc f.nodes.l (par f.nodes.l b))=(a∈anc f.nodes.l (par f.nodes.l b)):=by
      rw[List.mem_cons];exact propext ⟨fun h=>h.resolve_left (fun x=>e x.symm),.inr⟩
     simp only[hm]
     refine ih ?_
     by_cases hp:par f.nodes.l b=0
     ·exact .inl hp
     ·exact .inr (zdS hr hp).2.1
    ·simp only[zcd]
     rw[if_pos hne,if_neg (by simpa using e),zkh f _ hf.1,zas (e:=zai)];rfl
 rw[key b hb,Option.bind_some]
 by_cases h:a∈anc f.nodes.l b
 ·rw[if_pos h,decide_eq_true h]
 ·rw[if_neg h,decide_eq_false h]
def comm (f:List Node) (a b:Int):Int:=((anc f a).find? fun x=>decide (x∈anc f b)).getD 0
theorem zqt {f:List Node} (hr:zbf f) (b:Int):par f b=0∨isN f (par f b):=by
 by_cases hp:par f b=0
 ·exact .inl hp
 ·exact .inr (zdS hr hp).2.1
theorem zDn (f:Forest) (b:Int) (hf:Fit f.nodes.l) (hr:zbf f.nodes.l) (hb:isN f.nodes.l b):pc prog 127 [zae f,.int .i64 b]=some (eSl (D.int .i64) ⟨(anc f.nodes.l (par f.nodes.l b)).isEmpty,anc f.nodes.l (par f.nodes.l b)⟩):=by
 refine zKq f b _ ?_
 unfold zKp
 have hroom:AI.roomBytes=2^46:=rfl
 have key:∀b,isN f.nodes.l b→∀acc:List Int,acc.length+(anc f.nodes.l b).length≤2^40→zaP (zcz f) (b,acc)=some (acc++anc f.nodes.l (par f.nodes.l b)):=by
  refine zcJ hr (fun h hh hk=>absurd hk hh) fun b hb ih _ acc hl=> ?_
  rw[zcn hr hb,List.length_cons]at hl
  have ho:=zqr f b hf.1 hb
  by_cases hp:par f.nodes.l b=0
  ·rw[hp,zcK zbT,List.append_nil]
   refine zaD ?_
   simp only[zcz,ho,zas (e:=zai),Option.bind_some]
   rw[if_neg (by unfold par at hp;simp[hp])]
  ·rw[zaQ (y:=(par f.nodes.l b,acc++[par f.nodes.l b]))]
   ·have hin:=(zdS hr hp).2.1
    rw[ih hin _ (by simp only[List.length_append,List.length_singleton];omega),zcn hr hin,List.append_assoc];rfl
   ·simp only[zcz,ho,zas (e:=zai),Option.bind_some]
    rw[if_pos (by unfold par at hp;simp[hp]),if_pos (by rw[hroom];omega)];rfl
 have hL:=zlu f.nodes.l b
 have h40:=hr.1
 rw[key b hb [] (by simp only[List.length_nil];omega)];rfl
theorem zcD (f:Forest) (a b:Int) (hf:Fit f.nodes.l) (hr:zbf f.nodes.l) (hb:isN f.nodes.l b):pc prog 56 [zae f,.int .i64 a,.int .i64 b]=some (.bool (decide (a∈anc f.nodes.l b))):=by
 refine zMT f a b _ ?_
 unfold P56
 rw[zcn hr hb]
 by_cases e:a=b
 ·rw[if_neg (by simp[e]),decide_eq_true (by rw[e];exact List.mem_cons_self)]
 ·have hL:=zlu f.nodes.l (par f.nodes.l b)
  have h40:=hr.1
  rw[if_pos (by simpa using e),zDn f b hf hr hb,zas (e:=eSl (D.int .i64)),Option.bind_some,zfY _ _ (by dsimp only;omega),zas (e:=D.int .i64),Option.bind_some]
  dsimp only
  congr 1
  rw[decide_eq_decide,zoZ,List.mem_cons]
  exact⟨.inr,fun h=>h.resolve_left e⟩
theorem zsy (f:Forest) (a b:Int) (hf:Fit f.nodes.l) (hr:zbf f.nodes.l) (ha:isN f.nodes.l a) (hb:isN f.nodes.l b):pc prog 57 [zae f,.int .i64 a,.int .i64 b]=some (.int .i64 (comm f.nodes.l a b)):=by
 refine zMU f a b _ ?_
 unfold P57 comm
 have key:∀a,(a=0∨isN f.nodes.l a)→zaP (zcu f b) a=some (((anc f.nodes.l a).find? fun x=>decide (x∈anc f.nodes.l b)).getD 0):=by
  refine zcJ hr (fun a ha hk=> ?_) fun a ha ih _=> ?_
  ·obtain rfl:=hk.resolve_right ha
   rw[zcK zbT]
   exact zaD (by simp only[zcu];rfl)
  ·have hne:(!(a==0))=true:=by unfold isN at ha;simp;omega
   rw[zcn hr ha,List.find?_cons]
   by_cases e:a∈anc f.nodes.l b
   ·rw[decide_eq_true e]
    refine zaD ?_
    simp only[zcu,zcD f a b hf hr hb,zas (e:=D.bool),Option.bind_some]
    rw[if_pos hne,if_neg (by simp[e])];rfl
   ·rw[decide_eq_false e,zaQ (y:=par f.nodes.l a)]
    ·exact ih (zqt hr a)
    ·simp only[zcu,zcD f a b hf hr hb,zas (e:=D.bool),Option.bind_some]
     rw[if_pos hne,if_pos (by simp[e]),zqr f a hf.1 ha,zas (e:=zai)];rfl
 rw[key a (.inr ha)];rfl
theorem zsz (f:Forest) (h:Int) (hf:Fit f.nodes.l) (hr:zbf f.nodes.l) (hh:isN f.nodes.l h):pc prog 125 [zae f,.int .i64 h]=some (.int .i64 (root f.nodes.l h)):=by
 refine zKm f h _ ?_
 unfold zKl
 have key:∀h,isN f.nodes.l h→zaP (zcy f) h=some (root f.nodes.l h):=by
  refine zcJ hr (fun h hh hk=>absurd hk hh) fun h hh ih _=> ?_
  have ho:=zqr f h hf.1 hh
  by_cases hp:par f.nodes.l h=0
  ·rw[ziq hr hh hp]
   refine zaD ?_
   simp only[zcy,ho,zas (e:=zai),Option.bind_some]
   rw[if_neg (by unfold par at hp;simp[hp])]
  ·rw[zir hr hp,zaQ (y:=par f.nodes.l h)]
   ·exact ih (zdS hr hp).2.1
   ·simp only[zcy,ho,zas (e:=zai),Option.bind_some]
    rw[if_pos (by unfold par at hp;simp[hp])];rfl
 rw[key h hh];rfl
theorem zwV {f:List Node} (hr:zbf f) {h:Int} (hh:isN f h):(zgF f h).length≤f.length:=by
 have hsub:zgF f h⊆(List.range f.length).map fun k:Nat=>((k:Int)+1):=by
  intro x hx
  have:=(zwO hr _ ((zoY hr hh).1 hx)).2
  unfold isN at this
  rw[List.mem_map]
  exact⟨(x-1).toNat,List.mem_range.2 (by omega),by omega⟩
 have:=(zwT hr hh).length_le_of_subset hsub
 simpa using this
theorem zwW {α β:Type} {g:α→List β} {l:List α} {k:Nat} (hk:k<l.length):(l.take (k+1)).flatMap g=(l.take k).flatMap g++g l[k]:=by
 rw[List.take_succ_eq_append_getElem hk,List.flatMap_append];simp
theorem zLC {α β:Type} {g:α→List β} (l:List α) (k:Nat):((l.take k).flatMap g).length≤(l.flatMap g).length:=by
 conv=>rhs;rw[←List.take_append_drop k l]
 rw[List.flatMap_append,List.length_append];omega
theorem zwX (f:Forest) (hf:Fit f.nodes.l) (hr:zbf f.nodes.l):∀h,isN f.nodes.l h→pc prog 124 [zae f,.int .i64 h]=some (eSl (D.int .i64) ⟨false,zgF f.nodes.l h⟩):=by
 have hroom:AI.roomBytes=2^46:=rfl
 refine zjn hr fun h hh ih=> ?_
 refine zKk f h _ ?_
 unfold zKj
 rw[zqr f h hf.1 hh,zas (e:=zai),Option.bind_some]
 have hkl:=zio hf h
 have hall:=zwV hr hh
 have h40:=hr.1
 rw[all_in hr hh]at hall
 rw[List.length_cons]at hall
 have key:∀m k,k+m=(kidsL f.nodes.l h).length→zaP (zcx f (nodeD f.nodes.l h)) (h::((kidsL f.nodes.l h).take k).flatMap (zgF f.nodes.l),(k:Int))=some (h::(kidsL f.nodes.l h).flatMap (zgF f.nodes.l)):=by
  intro m
  induction m with
  |zero=>
   intro k hk
   obtain rfl:k=(kidsL f.nodes.l h).length:=by omega
   rw[List.take_length]
   refine zaD ?_
   simp only[zcx]
   rw[if_neg (by show ¬(decide (((kidsL f.nodes.l h).length:Int)<((kidsL f.nodes.l h).length:Int))=true);simp)]
  |succ m ihm=>
   intro k hk
   have hlt:k<(kidsL f.nodes.l h).length:=by omega
   have hw:=zaY (show k<2^62 by unfold kidsL at hlt;omega)
   have hmem:(kidsL f.nodes.l h)[k]∈kidsL f.nodes.l h:=List.getElem_mem hlt
   have hkN:=(zev hr hmem).2.1
   have hle:=zLC (g:=zgF f.nodes.l) (kidsL f.nodes.l h) (k+1)
   rw[zwW hlt,List.length_append]at hle
   have hrd:rd (nodeD f.nodes.l h).kids.l (k:Int)=some (kidsL f.nodes.l h)[k]:=zbU hlt
   rw[←ihm (k+1) (by omega),zwW hlt]
   refine zaQ ?_
   simp only[zcx,hrd,Option.bind_some,ih _ hmem,zas (e:=eSl (D.int .i64)),hw]
   rw[if_pos (show decide ((k:Int)<((nodeD f.nodes.l h).kids.l.length:Int))=true by
    apply decide_eq_true;unfold kidsL at hlt;omega)]
   rw[if_neg (by rw[all_in hr hkN];simp),if_pos (by rw[hroom];simp only[List.length_cons];omega)]
   rfl
 have:=key (kidsL f.nodes.l h).length 0 (by omega)
 rw[show(((0:Nat):Int))=0 from rfl,List.take_zero,List.flatMap_nil]at this
 rw[this,←all_in hr hh];rfl
end Go.Proofs.Ytfleilibjdgcjaa.O
