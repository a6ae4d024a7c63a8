/- Shaken copy of a longer text: what one law needs. Its conditions: none. -/
import Derived.Test.YtfleilibjdgcjaaZOSpFoA
import Derived.Test.YtfleilibjdgcjaaZOSpFoB
import Derived.Test.YtfleilibjdgcjaaZODecOL
import Derived.Test.YtfleilibjdgcjaaZAiE
set_option linter.unusedSimpArgs false
set_option linter.unusedVariables false
set_option linter.unusedSimpArgs false
set_option linter.unusedVariables false
set_option linter.unusedSectionVars false
set_option linter.unnecessarySimpa false
namespace Go.Proofs.Ytfleilibjdgcjaa.O
open Go.AI
theorem zjt (f:Forest) (a b:Int) (hf:Fit f.nodes.l):pc prog 87 [zae f,.list false ([a,b].map (D.int .i64))]=some (.int .i64 (zbE f.nodes.l [a,b])):=znr f ⟨false,[a,b]⟩ hf (by simp)
theorem zlA (f:Forest) (a b:Int) (hf:Fit f.nodes.l):pc prog 45 [zae f,.list false ([a,b].map (D.int .i64))]=some (.int .i64 (zbE f.nodes.l [a,b])):=zwM f ⟨false,[a,b]⟩ hf (by simp)
theorem zhH (f:Forest) (a b:Int) (hf:Fit f.nodes.l):pc prog 35 [zae f,.int .i64 a,.int .i64 b]=some (eT2 D.bool (D.int .i64) (if zbE f.nodes.l [a,b]=0 then(decide (a∈anc f.nodes.l b),0)else(false,zbE f.nodes.l [a,b]))):=by
 refine zMO f a b _ ?_
 unfold P35
 rw[zjt f a b hf,zas (e:=D.int .i64),Option.bind_some]
 by_cases h0:zbE f.nodes.l [a,b]=0
 ·obtain⟨hr,hab⟩:=zdT.1 h0
  obtain⟨ha,hb⟩:=zjr.1 hab
  rw[if_neg (by simp[h0]),if_pos h0,zew f a b hf hr (.inr hb),zas (e:=D.bool)];rfl
 ·rw[if_pos (by simp[h0]),if_neg h0]
theorem zki (f:Forest) (a b:Int) (hf:Fit f.nodes.l):pc prog 36 [zae f,.int .i64 a,.int .i64 b]=some (eT2 (D.int .i64) (D.int .i64) (if zbE f.nodes.l [a,b]=0 then(comm f.nodes.l a b,0)else(0,zbE f.nodes.l [a,b]))):=by
 refine zMP f a b _ ?_
 unfold P36
 rw[zjt f a b hf,zas (e:=D.int .i64),Option.bind_some]
 by_cases h0:zbE f.nodes.l [a,b]=0
 ·obtain⟨hr,hab⟩:=zdT.1 h0
  obtain⟨ha,hb⟩:=zjr.1 hab
  rw[if_neg (by simp[h0]),if_pos h0]
  have key:∀x,(x=0∨isN f.nodes.l x)→zaP (zct f a b) x=some (match(anc f.nodes.l x).find? fun x=>decide (x∈anc f.nodes.l b)with|some y=> .inr (y,y)|none=> .inl 0):=by
   refine zcJ hr (fun x hx hk=> ?_) fun x hx ih _=> ?_
   ·obtain rfl:=hk.resolve_right hx
    rw[zcK zbT]
    exact zaD (by simp only[zct];rfl)
   ·have hne:(!(x==0))=true:=by unfold isN at hx;simp;omega
    rw[zcn hr hx,List.find?_cons]
    by_cases e:x∈anc f.nodes.l b
    ·rw[decide_eq_true e]
     refine zaD ?_
     simp only[zct,zew f x b hf hr (.inr hb),zas (e:=D.bool),Option.bind_some]
     rw[if_pos hne,if_pos (by simp[e])]
    ·rw[decide_eq_false e,zaQ (y:=par f.nodes.l x)]
     ·exact ih (zqt hr x)
     ·simp only[zct,zew f x b hf hr (.inr hb),zas (e:=D.bool),Option.bind_some]
      rw[if_pos hne,if_neg (by simp[e]),zkh f x hf.1,zas (e:=zai)];rfl
  rw[key a (.inr ha),Option.bind_some]
  unfold comm
  rcases(anc f.nodes.l a).find? fun x=>decide (x∈anc f.nodes.l b)with _|y<;>rfl
 ·rw[if_pos (by simp[h0]),if_neg h0]
theorem zAm (f:Forest) (a b:Int) (hf:Fit f.nodes.l) (h0:zbE f.nodes.l [a,b]≠0):pc prog 61 [zae f,.int .i64 a,.int .i64 b]=some (eT2 D.bool (D.int .i64) (false,zbE f.nodes.l [a,b])):=by
 refine zMW f a b _ ?_
 unfold P61
 rw[zjt f a b hf,zas (e:=D.int .i64),Option.bind_some,if_pos (by simp[h0])]
theorem znv (f:Forest) (a b:Int) (hf:Fit f.nodes.l) (h0:zbE f.nodes.l [a,b]≠0):pc prog 53 [zae f,.int .i64 a,.int .i64 b,.int .i64 (zbE f.nodes.l [a,b])]=some (.bool true):=by
 refine zNd f a b _ _ ?_
 unfold P53
 rw[zhH f a b hf,zki f a b hf,zpb f a b hf,zjs f a b hf,zAm f a b hf h0]
 simp only[if_neg h0,zas (e:=eT2 D.bool (D.int .i64)),zas (e:=eT2 (D.int .i64) (D.int .i64)),zas (e:=eT3 (D.int .i64) D.bool (D.int .i64)),Option.bind_some]
 simp
theorem zqu {x:D}:∀{l:List D},x∈l→D.bulk x≤D.bulkAll l
 |y::l,h=>by
  simp only[D.bulkAll]
  rcases List.mem_cons.1 h with rfl|h
  ·omega
  ·have:=zqu h;omega
theorem zAn {f:Forest} {r:List D} (hb:D.bulkAll (zae f::r)≤1048576):Fit f.nodes.l:=by
 have h0:=zed (f.nodes.l.map zai)
 simp only[List.length_map]at h0
 simp only[zae,D.bulkAll,D.bulk]at hb
 refine⟨by omega,fun n hn=> ?_⟩
 have h1:=zqu (List.mem_map_of_mem (f:=zai) hn)
 have h2:=zed (n.attrs.l.map zaJ)
 have h3:=zed (n.kids.l.map (D.int .i64))
 simp only[List.length_map]at h2 h3
 simp only[zai,D.bulkAll,D.bulk]at h1
 omega
theorem znw (f:Forest) (a b:Int) (_:Forest.ok f) (_:IntKind.i64.min≤a∧a≤IntKind.i64.max) (_:IntKind.i64.min≤b∧b≤IntKind.i64.max) (hb:D.bulkAll [zae f,.int .i64 a,.int .i64 b]≤1048576):pc prog 12 [zae f,.int .i64 a,.int .i64 b]=some (.bool true):=by
 have hf:=zAn hb
 refine zNc f a b _ ?_
 unfold P12
 rw[zpd,zas (e:=D.bool),Option.bind_some,if_neg (by simp),zlA f a b hf,zas (e:=D.int .i64),Option.bind_some]
 by_cases h0:zbE f.nodes.l [a,b]=0
 ·obtain⟨hr,hab⟩:=zdT.1 h0
  obtain⟨ha,hb⟩:=zjr.1 hab
  rw[if_neg (by simp[h0]),zhH f a b hf,zki f a b hf,zpb f a b hf,zjs f a b hf,zxc f a b hf hr ha hb,zcD f a b hf hr hb,zsy f a b hf hr ha hb,zpc f a b hf hr ha hb]
  simp only[if_pos h0,zas (e:=eT2 D.bool (D.int .i64)),zas (e:=eT2 (D.int .i64) (D.int .i64)),zas (e:=eT2 (D.int .i64) D.bool),zas (e:=D.bool),zas (e:=D.int .i64),zas (e:=eT3 (D.int .i64) D.bool (D.int .i64)),Option.bind_some]
  simp
 ·rw[if_pos (by simp[h0]),znv f a b hf h0,zas (e:=D.bool)];rfl
end Go.Proofs.Ytfleilibjdgcjaa.O
