/- Shaken copy of a longer text: what one law needs. Its conditions: none. -/
import Derived.Test.YthodcjjgimeeoaaGreatZPSpPp
set_option linter.unusedSimpArgs false
set_option linter.unusedVariables false
set_option linter.unusedSimpArgs false
set_option linter.unusedVariables false
set_option linter.unusedSectionVars false
set_option linter.unnecessarySimpa false
namespace Go.Proofs.YthodcjjgimeeoaaGreat.P
open Go.AI
theorem zpT:pc prog 11 []=some (.bool true):=zJn 60 (by kernel_rfl)
theorem zEQ {hand:Sl Assign} {l:List D} (hm:eSl zai hand∈l) (hb:D.bulkAll l≤1048576):zkb hand.l:=by
 have h1:=zka hm
 simp only[eSl,D.bulk]at h1
 have h0:=zcT (hand.l.map zai)
 simp only[List.length_map]at h0
 refine⟨by omega,fun x hx=> ?_⟩
 have h2:=zka (List.mem_map_of_mem (f:=zai) hx)
 have h3:=zcT (x.nodes.l.map (D.int .i64))
 simp only[List.length_map]at h3
 simp only[zai,D.bulkAll,D.bulk]at h2
 omega
theorem zER {f:List Node} {hand:List Assign} {t rel:Int} {comp:Bool} (hr:zaJ f) (ht:isN f t):(zfk f hand t rel comp).length≤f.length:=by
 obtain⟨h1,-,-,h4⟩:=zHX (hand:=hand) (rel:=rel) (comp:=comp) hr ht
 have hn:((zfk f hand t rel comp).map (·.item)).Nodup:=by
  rw[List.nodup_iff_pairwise_ne,List.pairwise_map]
  exact h4.imp fun{a b} h e=>by rw[e]at h;omega
 have hs:(zfk f hand t rel comp).map (·.item)⊆(List.range f.length).map fun k:Nat=>((k:Int)+1):=by
  intro x hx
  obtain⟨y,hy,rfl⟩:=List.mem_map.1 hx
  have:=(h1 y hy).1
  unfold isN at this
  rw[List.mem_map]
  exact⟨(y.item-1).toNat,List.mem_range.2 (by omega),by omega⟩
 have:=hn.length_le_of_subset hs
 simpa using this
theorem znK (f:List Node) (hand:List Assign) (t rel:Int) (comp:Bool):((zct f hand t rel comp).2≠0∧(zct f hand t rel comp).1.l=[])∨(zlh f hand=0∧isN f t∧(rel=0∨isN f rel)∧(zct f hand t rel comp).2=0∧(zct f hand t rel comp).1.l=zfk f hand t rel comp):=by
 unfold zct
 by_cases h0:zlh f hand=0
 ·rw[if_pos h0]
  by_cases ht:isN f t
  ·rw[if_pos ht]
   by_cases hrel:rel=0∨isN f rel
   ·rw[if_pos hrel];exact .inr ⟨h0,ht,hrel,rfl,rfl⟩
   ·rw[if_neg hrel];exact .inl ⟨by simp,rfl⟩
  ·rw[if_neg ht];exact .inl ⟨by simp,rfl⟩
 ·rw[if_neg h0];exact .inl ⟨h0,rfl⟩
end Go.Proofs.YthodcjjgimeeoaaGreat.P
