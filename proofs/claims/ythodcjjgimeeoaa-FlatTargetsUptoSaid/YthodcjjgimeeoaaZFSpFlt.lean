/- Shaken copy of a longer text: what one law needs. Its conditions: none. -/
import Derived.Test.YthodcjjgimeeoaaZFSpFo9
import Derived.Test.YthodcjjgimeeoaaZAiE
set_option linter.unusedSimpArgs false
set_option linter.unusedVariables false
set_option linter.unusedSimpArgs false
set_option linter.unusedVariables false
set_option linter.unusedSectionVars false
set_option linter.unnecessarySimpa false
namespace Go.Proofs.Ythodcjjgimeeoaa.F
open Go.AI
theorem ziZ {f:List Node} {a b:Int}:(∀h∈[a,b],isN f h)↔isN f a∧isN f b:=by simp
theorem zgr (f:Forest) (a b:Int) (hf:Fit f.nodes.l):pc prog 82 [zai f,.list false ([a,b].map (D.int .i64))]=some (.int .i64 (zbP f.nodes.l [a,b])):=zvW f ⟨false,[a,b]⟩ hf (by simp)
theorem zgs (f:Forest) (a b:Int) (hf:Fit f.nodes.l):pc prog 97 [zai f,.list false ([a,b].map (D.int .i64))]=some (.int .i64 (zbP f.nodes.l [a,b])):=zvV f ⟨false,[a,b]⟩ hf (by simp)
theorem zzx (f:Forest) (a b:Int) (hf:Fit f.nodes.l) (h0:zbP f.nodes.l [a,b]≠0):pc prog 93 [zai f,.int .i64 a,.int .i64 b]=some (eT2 D.bool (D.int .i64) (false,zbP f.nodes.l [a,b])):=by
 refine zJF f a b _ ?_
 unfold P93
 rw[zgr f a b hf,zav (e:=D.int .i64),Option.bind_some,if_pos (by simp[h0])]
theorem zpH {x:D}:∀{l:List D},x∈l→D.bulk x≤D.bulkAll l
 |y::l,h=>by
  simp only[D.bulkAll]
  rcases List.mem_cons.1 h with rfl|h
  ·omega
  ·have:=zpH h;omega
theorem zpI {f:Forest} {r:List D} (hb:D.bulkAll (zai f::r)≤1048576):Fit f.nodes.l:=by
 have h0:=zdW (f.nodes.l.map zah)
 simp only[List.length_map]at h0
 simp only[zai,D.bulkAll,D.bulk]at hb
 refine⟨by omega,fun n hn=> ?_⟩
 have h1:=zpH (List.mem_map_of_mem (f:=zah) hn)
 have h2:=zdW (n.attrs.l.map zaH)
 have h3:=zdW (n.kids.l.map (D.int .i64))
 simp only[List.length_map]at h2 h3
 simp only[zah,D.bulkAll,D.bulk]at h1
 omega
end Go.Proofs.Ythodcjjgimeeoaa.F
