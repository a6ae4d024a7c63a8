/- Shaken copy of a longer text: what one law needs. Its conditions: none. -/
import Derived.Test.YtfleilibjdgcjaaZOSpFoA
import Derived.Test.YtfleilibjdgcjaaZOSpFoB
import Derived.Test.YtfleilibjdgcjaaZODecOL
import Derived.Test.YtfleilibjdgcjaaZAiE
set_option linter.unusedSimpArgs false
set_option linter.unusedVariables false
set_option linter.unusedSimpArgs false
set_option linter.unusedVariables false
set_option linter.unusedSectionVars false
set_option linter.unnecessarySimpa false
namespace Go.Proofs.Ytfleilibjdgcjaa.O
open Go.AI
theorem zho (f:Forest) (a b:Int) (hf:Fit f.nodes.l):pc prog 87 [eForest f,.list false ([a,b].map (D.int .i64))]=some (.int .i64 (zaI f.nodes.l [a,b])):=zkj f ⟨false,[a,b]⟩ hf (by simp)
theorem zer (f:Forest) (a:Int) (hf:Fit f.nodes.l):pc prog 87 [eForest f,.list false ([a].map (D.int .i64))]=some (.int .i64 (zaI f.nodes.l [a])):=zkj f ⟨false,[a]⟩ hf (by simp)
theorem zmJ (f:Forest) (a b:Int) (hf:Fit f.nodes.l):pc prog 45 [eForest f,.list false ([a,b].map (D.int .i64))]=some (.int .i64 (zaI f.nodes.l [a,b])):=zyt f ⟨false,[a,b]⟩ hf (by simp)
theorem zco (f:Forest) (a b:Int) (hf:Fit f.nodes.l):pc prog 35 [eForest f,.int .i64 a,.int .i64 b]=some (eT2 D.bool (D.int .i64) (if zaI f.nodes.l [a,b]=0 then(decide (a∈anc f.nodes.l b),0)else(false,zaI f.nodes.l [a,b]))):=by
 refine zNt f a b _ ?_
 unfold P35
 rw[zho f a b hf,zap (e:=D.int .i64),Option.bind_some]
 by_cases h0:zaI f.nodes.l [a,b]=0
 ·obtain⟨hr,hab⟩:=zaG.1 h0
  obtain⟨ha,hb⟩:=zfg.1 hab
  rw[if_neg (by simp[h0]),if_pos h0,zff f a b hf hr (.inr hb),zap (e:=D.bool)];rfl
 ·rw[if_pos (by simp[h0]),if_neg h0]
theorem zll (f:Forest) (a b:Int) (hf:Fit f.nodes.l):pc prog 36 [eForest f,.int .i64 a,.int .i64 b]=some (eT2 (D.int .i64) (D.int .i64) (if zaI f.nodes.l [a,b]=0 then(comm f.nodes.l a b,0)else(0,zaI f.nodes.l [a,b]))):=by
 refine zNu f a b _ ?_
 unfold P36
 rw[zho f a b hf,zap (e:=D.int .i64),Option.bind_some]
 by_cases h0:zaI f.nodes.l [a,b]=0
 ·obtain⟨hr,hab⟩:=zaG.1 h0
  obtain⟨ha,hb⟩:=zfg.1 hab
  rw[if_neg (by simp[h0]),if_pos h0]
  have key:∀x,(x=0∨isN f.nodes.l x)→zaQ (zcD f a b) x=some (match(anc f.nodes.l x).find? fun x=>decide (x∈anc f.nodes.l b)with|some y=> .inr (y,y)|none=> .inl 0):=by
   refine zcM hr (fun x hx hk=> ?_) fun x hx ih _=> ?_
   ·obtain rfl:=hk.resolve_right hx
    rw[zcN zbB]
    exact zaz (by simp only[zcD];rfl)
   ·have hne:(!(x==0))=true:=by unfold isN at hx;simp;omega
    rw[zcn hr hx,List.find?_cons]
    by_cases e:x∈anc f.nodes.l b
    ·rw[decide_eq_true e]
     refine zaz ?_
     simp only[zcD,zff f x b hf hr (.inr hb),zap (e:=D.bool),Option.bind_some]
     rw[if_pos hne,if_pos (by simp[e])]
    ·rw[decide_eq_false e,zaM (y:=par f.nodes.l x)]
     ·exact ih (zyH hr x)
     ·simp only[zcD,zff f x b hf hr (.inr hb),zap (e:=D.bool),Option.bind_some]
      rw[if_pos hne,if_neg (by simp[e]),zdC f x hf.1,zap (e:=eNode)];rfl
  rw[key a (.inr ha),Option.bind_some]
  unfold comm
  rcases(anc f.nodes.l a).find? fun x=>decide (x∈anc f.nodes.l b)with _|y<;>rfl
 ·rw[if_pos (by simp[h0]),if_neg h0]
theorem zrS (f:Forest) (a b:Int) (hf:Fit f.nodes.l) (h0:zaI f.nodes.l [a,b]≠0):pc prog 61 [eForest f,.int .i64 a,.int .i64 b]=some (eT2 D.bool (D.int .i64) (false,zaI f.nodes.l [a,b])):=by
 refine zNk f a b _ ?_
 unfold P61
 rw[zho f a b hf,zap (e:=D.int .i64),Option.bind_some,if_pos (by simp[h0])]
theorem zoU (f:Forest) (a b:Int) (hf:Fit f.nodes.l) (h0:zaI f.nodes.l [a,b]≠0):pc prog 53 [eForest f,.int .i64 a,.int .i64 b,.int .i64 (zaI f.nodes.l [a,b])]=some (.bool true):=by
 refine zNQ f a b _ _ ?_
 unfold P53
 rw[zco f a b hf,zll f a b hf,zko f a b hf,zqy f a b hf,zrS f a b hf h0]
 simp only[if_neg h0,zap (e:=eT2 D.bool (D.int .i64)),zap (e:=eT2 (D.int .i64) (D.int .i64)),zap (e:=eT3 (D.int .i64) D.bool (D.int .i64)),Option.bind_some]
 simp
theorem zrT {x:D}:∀{l:List D},x∈l→D.bulk x≤D.bulkAll l
 |y::l,h=>by
  simp only[D.bulkAll]
  rcases List.mem_cons.1 h with rfl|h
  ·omega
  ·have:=zrT h;omega
theorem zjk {f:Forest} {r:List D} (hb:D.bulkAll (eForest f::r)≤1048576):Fit f.nodes.l:=by
 have h0:=zeC (f.nodes.l.map eNode)
 simp only[List.length_map]at h0
 simp only[eForest,D.bulkAll,D.bulk]at hb
 refine⟨by omega,fun n hn=> ?_⟩
 have h1:=zrT (List.mem_map_of_mem (f:=eNode) hn)
 have h2:=zeC (n.attrs.l.map zaN)
 have h3:=zeC (n.kids.l.map (D.int .i64))
 simp only[List.length_map]at h2 h3
 simp only[eNode,D.bulkAll,D.bulk]at h1
 omega
end Go.Proofs.Ytfleilibjdgcjaa.O
