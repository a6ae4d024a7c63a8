/- Shaken copy of a longer text: what one law needs. Its conditions: none. -/
import Derived.Test.YtfleilibjdgcjaaYVSpFo9
import Derived.Test.YtfleilibjdgcjaaYAiE
set_option linter.unusedSimpArgs false
set_option linter.unusedVariables false
set_option linter.unusedSimpArgs false
set_option linter.unusedVariables false
set_option linter.unusedSectionVars false
set_option linter.unnecessarySimpa false
namespace Go.Proofs.Ytfleilibjdgcjaa.V
open Go.AI
theorem zEc {f:List Node} {a b:Int}:(∀h∈[a,b],isN f h)↔isN f a∧isN f b:=by simp
theorem zoa (f:Forest) (a b:Int) (hf:Fit f.nodes.l):pc prog 87 [zad f,.list false ([a,b].map (D.int .i64))]=some (.int .i64 (zbg f.nodes.l [a,b])):=zhb f ⟨false,[a,b]⟩ hf (by simp)
theorem zxu (f:Forest) (a:Int) (hf:Fit f.nodes.l):pc prog 87 [zad f,.list false ([a].map (D.int .i64))]=some (.int .i64 (zbg f.nodes.l [a])):=zhb f ⟨false,[a]⟩ hf (by simp)
theorem zAQ (f:Forest) (a b:Int) (hf:Fit f.nodes.l) (h0:zbg f.nodes.l [a,b]≠0):pc prog 61 [zad f,.int .i64 a,.int .i64 b]=some (eT2 D.bool (D.int .i64) (false,zbg f.nodes.l [a,b])):=by
 refine zLT f a b _ ?_
 unfold P61
 rw[zoa f a b hf,zas (e:=D.int .i64),Option.bind_some,if_pos (by simp[h0])]
theorem zqU {x:D}:∀{l:List D},x∈l→D.bulk x≤D.bulkAll l
 |y::l,h=>by
  simp only[D.bulkAll]
  rcases List.mem_cons.1 h with rfl|h
  ·omega
  ·have:=zqU h;omega
theorem ziT {f:Forest} {r:List D} (hb:D.bulkAll (zad f::r)≤1048576):Fit f.nodes.l:=by
 have h0:=zet (f.nodes.l.map zah)
 simp only[List.length_map]at h0
 simp only[zad,D.bulkAll,D.bulk]at hb
 refine⟨by omega,fun n hn=> ?_⟩
 have h1:=zqU (List.mem_map_of_mem (f:=zah) hn)
 have h2:=zet (n.attrs.l.map zaK)
 have h3:=zet (n.kids.l.map (D.int .i64))
 simp only[List.length_map]at h2 h3
 simp only[zah,D.bulkAll,D.bulk]at h1
 omega
end Go.Proofs.Ytfleilibjdgcjaa.V
