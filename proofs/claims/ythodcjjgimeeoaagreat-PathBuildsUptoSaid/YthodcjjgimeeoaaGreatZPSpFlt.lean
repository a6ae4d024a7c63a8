/- Shaken copy of a longer text: what one law needs. Its conditions: none. -/
import Derived.Test.YthodcjjgimeeoaaGreatZPSpFo9
import Derived.Test.YthodcjjgimeeoaaGreatZAiE
set_option linter.unusedSimpArgs false
set_option linter.unusedVariables false
set_option linter.unusedSimpArgs false
set_option linter.unusedVariables false
set_option linter.unusedSectionVars false
set_option linter.unnecessarySimpa false
namespace Go.Proofs.YthodcjjgimeeoaaGreat.P
open Go.AI
theorem zAx {f:List Node} {a b:Int}:(∀h∈[a,b],isN f h)↔isN f a∧isN f b:=by simp
theorem zpJ (f:Forest) (a b:Int) (hf:Fit f.nodes.l):pc prog 26 [zaa f,.list false ([a,b].map (D.int .i64))]=some (.int .i64 (zbH f.nodes.l [a,b])):=zhO f ⟨false,[a,b]⟩ hf (by simp)
theorem zlc (f:Forest) (a:Int) (hf:Fit f.nodes.l):pc prog 26 [zaa f,.list false ([a].map (D.int .i64))]=some (.int .i64 (zbH f.nodes.l [a])):=zhO f ⟨false,[a]⟩ hf (by simp)
theorem zEw (f:Forest) (a b:Int) (hf:Fit f.nodes.l) (h0:zbH f.nodes.l [a,b]≠0):pc prog 98 [zaa f,.int .i64 a,.int .i64 b]=some (eT2 D.bool (D.int .i64) (false,zbH f.nodes.l [a,b])):=by
 refine zQu f a b _ ?_
 unfold P98
 rw[zpJ f a b hf,zap (e:=D.int .i64),Option.bind_some,if_pos (by simp[h0])]
theorem zka {x:D}:∀{l:List D},x∈l→D.bulk x≤D.bulkAll l
 |y::l,h=>by
  simp only[D.bulkAll]
  rcases List.mem_cons.1 h with rfl|h
  ·omega
  ·have:=zka h;omega
theorem zEx {f:Forest} {r:List D} (hb:D.bulkAll (zaa f::r)≤1048576):Fit f.nodes.l:=by
 have h0:=zcT (f.nodes.l.map zao)
 simp only[List.length_map]at h0
 simp only[zaa,D.bulkAll,D.bulk]at hb
 refine⟨by omega,fun n hn=> ?_⟩
 have h1:=zka (List.mem_map_of_mem (f:=zao) hn)
 have h2:=zcT (n.attrs.l.map zbg)
 have h3:=zcT (n.kids.l.map (D.int .i64))
 simp only[List.length_map]at h2 h3
 simp only[zao,D.bulkAll,D.bulk]at h1
 omega
end Go.Proofs.YthodcjjgimeeoaaGreat.P
