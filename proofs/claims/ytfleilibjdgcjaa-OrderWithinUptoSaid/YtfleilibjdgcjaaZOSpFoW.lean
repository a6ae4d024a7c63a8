/- Shaken copy of a longer text: what one law needs. Its conditions: none. -/
import Derived.Test.YtfleilibjdgcjaaZOSpFoE
set_option linter.unusedSimpArgs false
set_option linter.unusedVariables false
set_option linter.unusedSimpArgs false
set_option linter.unusedVariables false
set_option linter.unusedSectionVars false
set_option linter.unnecessarySimpa false
namespace Go.Proofs.Ytfleilibjdgcjaa.O
open Go.AI
theorem zuf {f:List Node} (hr:zaO f) {c:Int} {l2:List Int}:∀b (l1:List Int),anc f b=l1++c::l2→c::l2=anc f c:=by
 refine zcM hr (fun h hh l1 e=>by rw[zcN hh]at e;simp at e) fun b hb ih l1 e=> ?_
 rw[zcn hr hb]at e
 rcases l1 with _|⟨x,l1⟩
 ·simp only[List.nil_append,List.cons.injEq]at e
  obtain⟨rfl,rfl⟩:=e
  exact(zcn hr hb).symm
 ·simp only[List.cons_append,List.cons.injEq]at e
  exact ih l1 e.2
theorem zmS {f:List Node} (hr:zaO f) {a b:Int} (h:a∈anc f b):root f a=root f b:=by
 have ha:=(zmz hr _ h).1
 obtain⟨h1,h2,h3⟩:=zeI hr a ha
 exact zoN hr h2 b (zyz hr h1 b h)
theorem zyV {f:List Node} (hr:zaO f) {a b:Int} (ha:isN f a) (hb:isN f b) (he:root f a=root f b):comm f a b∈anc f a∧comm f a b∈anc f b∧∀k∈kidsL f (comm f a b),¬(k∈anc f a∧k∈anc f b):=by
 have hex:∃c,(anc f a).find? (fun x=>decide (x∈anc f b))=some c:=by
  rw[←Option.isSome_iff_exists,List.find?_isSome]
  exact⟨root f a,(zeI hr a ha).1,by rw[he];simpa using(zeI hr b hb).1⟩
 obtain⟨c,hc⟩:=hex
 have hcc:comm f a b=c:=by unfold comm;rw[hc];rfl
 rw[hcc]
 have hm:=List.mem_of_find?_eq_some hc
 have hp:=List.find?_some hc
 simp only[decide_eq_true_eq]at hp
 refine⟨hm,hp,fun k hk ⟨k1,k2⟩=> ?_⟩
 obtain⟨-,l1,l2,e,hn⟩:=List.find?_eq_some_iff_append.1 hc
 have hs:=zuf hr a l1 e
 rw[e]at k1
 have hkc:k∈anc f c:=by
  rcases List.mem_append.1 k1 with h|h
  ·have:=hn k h;simp[k2]at this
  ·rw[←hs];exact h
 have h1:=zyA hr _ hkc
 have h2:=zoO hr hk
 omega
theorem zyW {f:List Node} (hr:zaO f) {a b:Int} (ha:isN f a) (hb:isN f b) (he:root f a≠root f b):comm f a b=0:=by
 unfold comm
 have:(anc f a).find? (fun x=>decide (x∈anc f b))=none:=by
  rw[List.find?_eq_none]
  intro x hx h
  simp only[decide_eq_true_eq]at h
  exact he ((zmS hr hx).symm.trans (zmS hr h))
 rw[this];rfl
theorem zkC (f:Forest) (a b:Int) (_:Forest.ok f) (_:IntKind.i64.min≤a∧a≤IntKind.i64.max) (_:IntKind.i64.min≤b∧b≤IntKind.i64.max) (hb:D.bulkAll [eForest f,.int .i64 a,.int .i64 b]≤1048576):pc prog 9 [eForest f,.int .i64 a,.int .i64 b]=some (.bool true):=by
 have hf:=zjk hb
 refine ok9 f a b _ ?_
 unfold P9
 rw[zeK,zap (e:=D.bool),Option.bind_some,if_neg (by simp),zco f a b hf,zll f a b hf,zhr f a hf,zhr f b hf,zmL f a hf]
 simp only[zap (e:=eT2 D.bool (D.int .i64)),zap (e:=eT2 (eSl (D.int .i64)) (D.int .i64)),zap (e:=eT2 (D.int .i64) (D.int .i64)),Option.bind_some]
 by_cases h0:zaI f.nodes.l [a,b]=0
 case neg=>rw[if_neg h0,if_neg h0,if_pos (by simp[h0])];simp[h0]
 obtain⟨hr,hab⟩:=zaG.1 h0
 obtain⟨ha,hbN⟩:=zfg.1 hab
 have ha0:zaI f.nodes.l [a]=0:=zaG.2 ⟨hr,by simpa using ha⟩
 have hb0:zaI f.nodes.l [b]=0:=zaG.2 ⟨hr,by simpa using hbN⟩
 have hl40:(zbG f.nodes.l a).length≤2^40:=by have:=zmF hr ha;have:=hr.1;omega
 rw[if_pos h0,if_pos h0,if_pos ha0,if_pos hb0,if_pos ha0,if_neg (by simp)]
 dsimp only
 rw[zcS ⟨false,zbG f.nodes.l a⟩ b hl40]
 simp only[zap (e:=D.int .i64),Option.bind_some]
 rw[show decide (0≤idx (zbG f.nodes.l a) b)=decide (a∈anc f.nodes.l b) by rw[decide_eq_decide,zkm];exact zmB hr ha]
 have hin:(bif decide (a∈anc f.nodes.l b)then(!(root f.nodes.l a==root f.nodes.l b))else false)=false:=by
  by_cases h:a∈anc f.nodes.l b
  ·rw[zmS hr h];simp
  ·rw[decide_eq_false h];rfl
 rw[hin,if_pos (show(!false)=true from rfl)]
 by_cases he:root f.nodes.l a=root f.nodes.l b
 case neg=>
  rw[zyW hr ha hbN he,show(root f.nodes.l a==root f.nodes.l b)=false by simpa using he]
  simp
 obtain⟨c1,c2,c3⟩:=zyV hr ha hbN he
 have hcN:=(zmz hr _ c1).1
 have hcN':=hcN
 unfold isN at hcN'
 rw[show(root f.nodes.l a==root f.nodes.l b)=true by simpa using he,show(comm f.nodes.l a b==0)=false by simp;omega]
 simp only[Bool.not_false,beq_self_eq_true,Bool.not_true,cond_false,Option.bind_some]
 have hca:zaI f.nodes.l [comm f.nodes.l a b,a]=0:=zaG.2 ⟨hr,by simpa using⟨hcN,ha⟩⟩
 have hcb:zaI f.nodes.l [comm f.nodes.l a b,b]=0:=zaG.2 ⟨hr,by simpa using⟨hcN,hbN⟩⟩
 rw[if_neg (by simp),if_neg (by simp),zco f _ a hf,zco f _ b hf,if_pos hca,if_pos hcb]
 simp only[zap (e:=eT2 D.bool (D.int .i64)),Option.bind_some]
 rw[decide_eq_true c1,decide_eq_true c2,if_neg (by simp;omega)]
 obtain⟨n,hn⟩:=zhj hcN.1 hcN.2
 have hnd:nodeD f.nodes.l (comm f.nodes.l a b)=n:=by unfold nodeD;rw[hn];rfl
 rw[w64 (by have:=hf.1;omega) (by have:=hf.1;omega),zgD hn,Option.bind_some]
 have hk40:=zdN hf (comm f.nodes.l a b)
 rw[hnd]at hk40
 have hkl:kidsL f.nodes.l (comm f.nodes.l a b)=n.kids.l:=by unfold kidsL;rw[hnd]
 have hloop:zaQ (zep f a b n) 0=some (if n.kids.l.any (fun _=>false)=true then .inr ()else .inl ()):=by
  refine zhi (l:=n.kids.l) (fun _=>false) (Sum.inr ()) (Sum.inl ()) ?_ ?_
  ·intro k hk
   have hmem:n.kids.l[k]∈kidsL f.nodes.l (comm f.nodes.l a b):=by rw[hkl];exact List.getElem_mem hk
   have hkN:=(zca hr hmem).2.1
   have hw:=zaT (show k<2^62 by omega)
   have f1:zaI f.nodes.l [n.kids.l[k],a]=0:=zaG.2 ⟨hr,by simpa using⟨hkN,ha⟩⟩
   have f2:zaI f.nodes.l [n.kids.l[k],b]=0:=zaG.2 ⟨hr,by simpa using⟨hkN,hbN⟩⟩
   simp only[zep,zby hk,Option.bind_some,hw,zco f _ a hf,zco f _ b hf,if_pos f1,if_pos f2,zap (e:=eT2 D.bool (D.int .i64))]
   have:=c3 _ hmem
   rw[if_pos (decide_eq_true (by omega)),if_pos (by simp),zms,if_neg (by simpa using this)]
   simp
  ·simp only[zep]
   rw[if_neg (by simp)]
 rw[hloop]
 simp
end Go.Proofs.Ytfleilibjdgcjaa.O
