/- Shaken copy of a longer text: what one law needs. Its conditions: none. -/
import Derived.Test.YtfleilibjdgcjaaZOSpDeep2
set_option linter.unusedSimpArgs false
set_option linter.unusedVariables false
set_option linter.unusedSimpArgs false
set_option linter.unusedVariables false
set_option linter.unusedSectionVars false
set_option linter.unnecessarySimpa false
namespace Go.Proofs.Ytfleilibjdgcjaa.O
open Go.AI
theorem zCN (f:Forest) (h:Int) (hf:Fit f.nodes.l):pc prog 183 [eForest f,.int .i64 h]=some (.int .i64 (nx f.nodes.l h)):=by
 refine zLV f h _ ?_
 unfold zLU
 rw[zdC f h hf.1,zap (e:=eNode),Option.bind_some]
 unfold nx zfc
 split<;>rfl
theorem zyT (f:Forest) (h:Int) (hf:Fit f.nodes.l) (hh:isN f.nodes.l h):pc prog 138 [eForest f,.int .i64 h]=some (.int .i64 (nx f.nodes.l h)):=by
 refine zLH f h _ ?_
 unfold zLG
 rw[zyG f h hf.1 hh,zap (e:=eNode),Option.bind_some]
 unfold nx zfc
 by_cases hk:((nodeD f.nodes.l h).kind==12)=true
 ·rw[if_pos hk,if_pos hk,Option.bind_some]
 ·rw[if_neg hk,if_neg hk,Option.bind_some]
theorem zoX (f:Forest) (h:Int) (hf:Fit f.nodes.l) (hr:zaO f.nodes.l) (hh:isN f.nodes.l h):pc prog 132 [eForest f,.int .i64 h]=some (.int .i64 (zmU f.nodes.l h)):=by
 refine zLD f h _ ?_
 unfold zLC
 have key:∀h,isN f.nodes.l h→∀r,zaQ (zcK f) (r,h)=some (zmU f.nodes.l h,0):=by
  refine zeo hr (fun h hh hk=>absurd hk hh) fun h hh ih _ r=> ?_
  have hne:(!(h==0))=true:=by unfold isN at hh;simp;omega
  rw[zaM (y:=(h,nx f.nodes.l h))]
  ·by_cases hp:nx f.nodes.l h=0
   ·rw[hp,zmO hr hh hp]
    exact zaz (by simp only[zcK];rfl)
   ·rw[zyQ hr hh hp];exact ih ((zua hr h).resolve_left hp) h
  ·simp only[zcK]
   rw[if_pos hne,zCN f _ hf,zap (e:=D.int .i64)];rfl
 rw[key h hh h];rfl
theorem zqD (f:Forest) (h:Int) (hf:Fit f.nodes.l):pc prog 60 [eForest f,.int .i64 h]=some (eT2 (D.int .i64) (D.int .i64) (if zaI f.nodes.l [h]=0 then(zmU f.nodes.l h,0)else(0,zaI f.nodes.l [h]))):=by
 refine zNz f h _ ?_
 unfold P60
 rw[zer f h hf,zap (e:=D.int .i64),Option.bind_some]
 by_cases h0:zaI f.nodes.l [h]=0
 ·obtain⟨hr,hh⟩:=zaG.1 h0
  rw[if_neg (by simp[h0]),if_pos h0,zoX f h hf hr (hh h (by simp)),zap (e:=D.int .i64)];rfl
 ·rw[if_pos (by simp[h0]),if_neg h0]
theorem zyU (f:Forest) (h:Int) (hf:Fit f.nodes.l) (hr:zaO f.nodes.l) (hh:isN f.nodes.l h):pc prog 65 [eForest f,.int .i64 h]=some (.int .i64 (zmU f.nodes.l h)):=by
 refine zNC f h _ ?_
 unfold P65
 have key:∀h,isN f.nodes.l h→zaQ (zde f) h=some (zmU f.nodes.l h):=by
  refine zeo hr (fun h hh hk=>absurd hk hh) fun h hh ih _=> ?_
  by_cases hp:nx f.nodes.l h=0
  ·rw[zmO hr hh hp]
   refine zaz ?_
   simp only[zde,zyT f h hf hh,zap (e:=D.int .i64),Option.bind_some]
   rw[if_neg (by simp[hp])]
  ·rw[zyQ hr hh hp,zaM (y:=nx f.nodes.l h)]
   ·exact ih ((zua hr h).resolve_left hp)
   ·simp only[zde,zyT f h hf hh,zap (e:=D.int .i64),Option.bind_some]
    rw[if_pos (by simp[hp])]
 rw[key h hh];rfl
theorem zes (f:Forest) (a b:Int) (hf:Fit f.nodes.l):pc prog 61 [eForest f,.int .i64 a,.int .i64 b]=some (eT2 D.bool (D.int .i64) (if zaI f.nodes.l [a,b]=0 then(decide (a∈upc f.nodes.l b),0)else(false,zaI f.nodes.l [a,b]))):=by
 by_cases h0:zaI f.nodes.l [a,b]=0
 case neg=>rw[if_neg h0];exact zrS f a b hf h0
 rw[if_pos h0]
 refine zNk f a b _ ?_
 unfold P61
 rw[zho f a b hf,zap (e:=D.int .i64),Option.bind_some,if_neg (by simp[h0])]
 obtain⟨hr,hab⟩:=zaG.1 h0
 obtain⟨ha,hb⟩:=zfg.1 hab
 have key:∀x,(x=0∨isN f.nodes.l x)→zaQ (zcE f a b) x=some (if a∈upc f.nodes.l x then .inr a else .inl 0):=by
  refine zeo hr (fun x hx hk=> ?_) fun x hx ih _=> ?_
  ·obtain rfl:=hk.resolve_right hx
   rw[zdD zbB]
   exact zaz (by simp only[zcE];rfl)
  ·have hne:(!(x==0))=true:=by unfold isN at hx;simp;omega
   rw[zdE hr hx]
   by_cases e:x=a
   ·subst e
    rw[if_pos List.mem_cons_self]
    refine zaz ?_
    simp only[zcE]
    rw[if_pos hne,if_pos (by simp)]
   ·rw[zaM (y:=nx f.nodes.l x)]
    ·have hm:(a∈x::upc f.nodes.l (nx f.nodes.l x))=(a∈upc f.nodes.l (nx f.nodes.l x)):=by
      rw[List.mem_cons];exact propext ⟨fun h=>h.resolve_left (fun y=>e y.symm),.inr⟩
     simp only[hm]
     exact ih (zua hr x)
    ·simp only[zcE]
     rw[if_pos hne,if_neg (by simpa using e),zCN f _ hf,zap (e:=D.int .i64)];rfl
 rw[key b (.inr hb),Option.bind_some]
 by_cases h:a∈upc f.nodes.l b
 ·rw[if_pos h,decide_eq_true h]
 ·rw[if_neg h,decide_eq_false h]
theorem zud (f:Forest) (a b:Int) (hf:Fit f.nodes.l) (hr:zaO f.nodes.l) (ha:isN f.nodes.l a) (hb:isN f.nodes.l b):pc prog 68 [eForest f,.int .i64 a,.int .i64 b]=some (.bool (decide (a∈upc f.nodes.l b))):=by
 refine zNF f a b _ ?_
 unfold P68
 have key:∀x,(x=0∨isN f.nodes.l x)→zaQ (zcH f a) x=some (if a∈upc f.nodes.l x then a else 0):=by
  refine zeo hr (fun x hx hk=> ?_) fun x hx ih _=> ?_
  ·obtain rfl:=hk.resolve_right hx
   rw[zdD zbB]
   exact zaz (by simp only[zcH];rfl)
  ·have hne:(!(x==0))=true:=by unfold isN at hx;simp;omega
   rw[zdE hr hx]
   by_cases e:x=a
   ·subst e
    rw[if_pos List.mem_cons_self]
    refine zaz ?_
    simp only[zcH]
    rw[if_neg (by simp)]
   ·rw[zaM (y:=nx f.nodes.l x)]
    ·have hm:(a∈x::upc f.nodes.l (nx f.nodes.l x))=(a∈upc f.nodes.l (nx f.nodes.l x)):=by
      rw[List.mem_cons];exact propext ⟨fun h=>h.resolve_left (fun y=>e y.symm),.inr⟩
     simp only[hm]
     exact ih (zua hr x)
    ·simp only[zcH]
     rw[if_pos (by rw[hne];simpa using e),zyT f _ hf hx,zap (e:=D.int .i64)];rfl
 rw[key b (.inr hb),Option.bind_some]
 by_cases h:a∈upc f.nodes.l b
 ·rw[if_pos h,decide_eq_true h];simp
 ·rw[if_neg h,decide_eq_false h]
  have:((0:Int)==a)=false:=by unfold isN at ha;simp;omega
  rw[this]
theorem zmP (f:Forest) (h:Int) (hf:Fit f.nodes.l) (h0:zaI f.nodes.l [h]=0):pc prog 64 [eForest f,.int .i64 h]=some (eT2 D.bool (D.int .i64) ((nodeD f.nodes.l (zmU f.nodes.l h)).kind==9,0)):=by
 refine zNB f h _ ?_
 unfold P64
 obtain⟨hr,hh⟩:=zaG.1 h0
 rw[zer f h hf,zap (e:=D.int .i64),Option.bind_some,if_neg (by simp[h0]),zoX f h hf hr (hh h (by simp)),zap (e:=D.int .i64),Option.bind_some,zdC f _ hf.1,zap (e:=eNode),Option.bind_some]
theorem zmQ (f:Forest) (h:Int) (hf:Fit f.nodes.l) (hr:zaO f.nodes.l) (hh:isN f.nodes.l h):pc prog 69 [eForest f,.int .i64 h]=some (.bool ((nodeD f.nodes.l (zmU f.nodes.l h)).kind==9)):=by
 refine zNG f h _ ?_
 unfold P69
 rw[zyU f h hf hr hh,zap (e:=D.int .i64),Option.bind_some,zyG f _ hf.1 (zyR hr h hh).2.2,zap (e:=eNode),Option.bind_some]
theorem zue (f:Forest) (hf:Fit f.nodes.l) (hr:zaO f.nodes.l):∀h,isN f.nodes.l h→pc prog 67 [eForest f,.int .i64 h]=some (eSl (D.int .i64) ⟨false,zbh f.nodes.l h⟩):=by
 have hroom:AI.roomBytes=2^46:=rfl
 refine zfS hr fun h hh ih=> ?_
 refine zNE f h _ ?_
 unfold P67
 rw[zyG f h hf.1 hh,zap (e:=eNode),Option.bind_some]
 have hkl:=zdN hf h
 have hall:=zjm hr hh
 have h40:=hr.1
 rw[zcx hr hh]at hall
 simp only[List.length_cons,List.length_append]at hall
 have key:∀(acc:List Int),acc≠[]→acc.length+((kidsL f.nodes.l h).flatMap (zbh f.nodes.l)).length≤2^40→∀m k,k+m=(kidsL f.nodes.l h).length→zaQ (zcG f (nodeD f.nodes.l h)) (acc++((kidsL f.nodes.l h).take k).flatMap (zbh f.nodes.l),(k:Int))=some (acc++(kidsL f.nodes.l h).flatMap (zbh f.nodes.l)):=by
  intro acc hne hacc m
  induction m with
  |zero=>
   intro k hk
   obtain rfl:k=(kidsL f.nodes.l h).length:=by omega
   rw[List.take_length]
   refine zaz ?_
   simp only[zcG]
   rw[if_neg (by show ¬(decide (((kidsL f.nodes.l h).length:Int)<((kidsL f.nodes.l h).length:Int))=true);simp)]
  |succ m ihm=>
   intro k hk
   have hlt:k<(kidsL f.nodes.l h).length:=by omega
   have hw:=zaT (show k<2^62 by unfold kidsL at hlt;omega)
   have hmem:(kidsL f.nodes.l h)[k]∈kidsL f.nodes.l h:=List.getElem_mem hlt
   have hkN:=(zca hr hmem).2.1
   have hle:=zIV (g:=zbh f.nodes.l) (kidsL f.nodes.l h) (k+1)
   rw[zmG hlt,List.length_append]at hle
   have hrd:rd (nodeD f.nodes.l h).kids.l (k:Int)=some (kidsL f.nodes.l h)[k]:=zby hlt
   rw[←ihm (k+1) (by omega),zmG hlt]
   refine zaM ?_
   simp only[zcG,hrd,Option.bind_some,ih _ hkN (zca hr hmem).2.2.2,zap (e:=eSl (D.int .i64)),hw]
   rw[if_pos (show decide ((k:Int)<((nodeD f.nodes.l h).kids.l.length:Int))=true by
    apply decide_eq_true;unfold kidsL at hlt;omega)]
   rw[if_neg (by rw[zcx hr hkN];simp),if_pos (by rw[hroom];simp only[List.length_append];omega)]
   simp only[List.append_assoc]
 have fin:∀(acc:List Int),acc≠[]→acc.length+((kidsL f.nodes.l h).flatMap (zbh f.nodes.l)).length≤2^40→acc++(kidsL f.nodes.l h).flatMap (zbh f.nodes.l)=zbh f.nodes.l h→((zaQ (zcG f (nodeD f.nodes.l h)) (acc,0)).bind fun r21=>some ((⟨false,r21⟩:Sl Int)))=some ⟨false,zbh f.nodes.l h⟩:=by
  intro acc hne hacc e
  have:=key acc hne hacc (kidsL f.nodes.l h).length 0 (by omega)
  rw[show(((0:Nat):Int))=0 from rfl,List.take_zero,List.flatMap_nil,List.append_nil]at this
  rw[this,e];rfl
 by_cases hs:(nodeD f.nodes.l h).shadow=0
 ·rw[if_neg (by simp[hs]),Option.bind_some]
  rw[if_pos hs]at hall
  exact fin [h] (by simp) (by simp only[List.length_singleton];omega) (by rw[zcx hr hh,if_pos hs];simp)
 ·obtain⟨s1,s2,s3⟩:=zcw hr hs
  rw[if_neg hs]at hall
  rw[if_pos (by simp[hs]),ih _ s2 s3,zap (e:=eSl (D.int .i64)),Option.bind_some,if_neg (by rw[zcx hr s2];simp),if_pos (by rw[hroom];simp only[List.length_singleton];omega),Option.bind_some]
  exact fin ([h]++zbh f.nodes.l (nodeD f.nodes.l h).shadow) (by simp) (by simp only[List.length_append,List.length_singleton];omega) (by rw[zcx hr hh,if_neg hs];simp)
theorem zCq (a b:Sl Int) (ha:a.l.length≤2^40):pc prog 66 [.list a.n (a.l.map (D.int .i64)),.list b.n (b.l.map (D.int .i64))]=some (.bool (decide (a.l=b.l))):=by
 refine zND a b _ ?_
 unfold P66
 by_cases hl:a.l.length=b.l.length
 case neg=>rw[if_pos (by simp;omega),decide_eq_false (fun e=>hl (by rw[e]))]
 rw[if_neg (by simp[hl])]
 have key:∀m k,k+m=a.l.length→a.l.take k=b.l.take k→zaQ (zcF a b) (k:Int)=some (if a.l=b.l then .inl ()else .inr ()):=by
  intro m
  induction m with
  |zero=>
   intro k hk e
   obtain rfl:k=a.l.length:=by omega
   rw[List.take_length,hl,List.take_length]at e
   rw[if_pos e]
   refine zaz ?_
   simp only[zcF]
   rw[if_neg (by simp)]
  |succ m ihm=>
   intro k hk e
   have hlt:k<a.l.length:=by omega
   have hlt2:k<b.l.length:=by omega
   have hw:=zaT (show k<2^62 by omega)
   by_cases he:a.l[k]=b.l[k]
   ·rw[←ihm (k+1) (by omega) (by rw[List.take_succ_eq_append_getElem hlt,List.take_succ_eq_append_getElem hlt2,e,he])]
    refine zaM ?_
    simp only[zcF,zby hlt,zby hlt2,Option.bind_some,hw]
    rw[if_pos (decide_eq_true (by omega)),if_neg (by simp[he])]
   ·rw[if_neg (fun h=>he (by simp only[h]))]
    refine zaz ?_
    simp only[zcF,zby hlt,zby hlt2,Option.bind_some,hw]
    rw[if_pos (decide_eq_true (by omega)),if_pos (by simp[he])]
 have:=key a.l.length 0 (by omega) rfl
 rw[show(((0:Nat):Int))=0 from rfl]at this
 rw[this]
 by_cases e:a.l=b.l
 ·rw[if_pos e,decide_eq_true e];rfl
 ·rw[if_neg e,decide_eq_false e];rfl
theorem zmR (f:Forest) (a b:Int) (_:Forest.ok f) (_:IntKind.i64.min≤a∧a≤IntKind.i64.max) (_:IntKind.i64.min≤b∧b≤IntKind.i64.max) (hb:D.bulkAll [eForest f,.int .i64 a,.int .i64 b]≤1048576):pc prog 15 [eForest f,.int .i64 a,.int .i64 b]=some (.bool true):=by
 have hf:=zjk hb
 refine zNO f a b _ ?_
 unfold P15
 rw[zeK,zap (e:=D.bool),Option.bind_some,if_neg (by simp),zmJ f a b hf,zap (e:=D.int .i64),Option.bind_some]
 by_cases h0:zaI f.nodes.l [a,b]=0
 ·obtain⟨hr,hab⟩:=zaG.1 h0
  obtain⟨ha,hb⟩:=zfg.1 hab
  have ha0:zaI f.nodes.l [a]=0:=zaG.2 ⟨hr,by simpa using ha⟩
  have hd40:(zbh f.nodes.l a).length≤2^40:=by have:=zjm hr ha;have:=hr.1;omega
  rw[if_neg (by simp[h0]),zqD f a hf,zrW f a hf,zes f a b hf,zmP f a hf ha0,zyU f a hf hr ha,zue f hf hr a ha,zud f a b hf hr ha hb,zmQ f a hf hr ha]
  simp only[if_pos h0,if_pos ha0,zap (e:=eT2 D.bool (D.int .i64)),zap (e:=eT2 (eSl (D.int .i64)) (D.int .i64)),zap (e:=eSl (D.int .i64)),zap (e:=eT2 (D.int .i64) (D.int .i64)),zap (e:=D.bool),zap (e:=D.int .i64),Option.bind_some]
  simp only[beq_self_eq_true,cond_true,if_true]
  rw[zCq ⟨false,zbh f.nodes.l a⟩ ⟨false,zbh f.nodes.l a⟩ hd40,zap (e:=D.bool),Option.bind_some]
  simp
 ·rw[if_pos (by simp[h0]),zoU f a b hf h0,zap (e:=D.bool)];rfl
end Go.Proofs.Ytfleilibjdgcjaa.O
