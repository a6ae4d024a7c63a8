/- Shaken copy of a longer text: what one law needs. Its conditions: none. -/
import Derived.Test.YtnijbejobbajfaaZESpDisp5
set_option linter.unusedSimpArgs false
set_option linter.unusedVariables false
set_option linter.unusedSectionVars false
set_option linter.unnecessarySimpa false
namespace Go.Proofs.Ytnijbejobbajfaa.E
open Go.AI
def phaseP (s : Step) (cap : Bool) : Int := if s.target = 0 then (if cap then 1 else 3) else 2
def stayP (r : Run) (ph : Int) : Bool := (ph == 3 && !r.event.bubbles) || r.event.stop
def turnAt (l : Listeners) (r : Run) (at_ : Nat) (cap : Bool) (s : Step) : Run :=
  if stayP r (phaseP s cap) = true then { r with turn := r.turn + 1 } else
  { r with turn := r.turn + 1, event := { r.event with phase := phaseP s cap, current := s.item, target := targetL (r.path.l.take (at_ + 1)) 0, related := s.related }, due := (due l s.item r.event.type_ (phaseP s cap) cap).1 }
theorem begun_ref (l : Listeners) (r : Run) (at_ : Nat) (cap : Bool) (ha : at_ < r.path.l.length) (hp : placeP r.path.l.length r.turn = ((at_ : Int), cap)) (h0 : 0 ≤ r.turn) (h1 : r.turn < 2 * r.path.l.length) (hl : r.path.l.length ≤ 2 ^ 31) : pc prog 81 [eListeners l, eRun r] = some (eRun (turnAt l r at_ cap r.path.l[at_])) := by
  have hw : IntKind.i64.wrap (r.turn + 1) = r.turn + 1 := by rw [IntKind.wrap_i64]; omega
  have hst := step_run { r with turn := r.turn + 1 } hl (show 0 ≤ r.turn + 1 by omega) (show r.turn + 1 ≤ 2 ^ 40 by omega)
  rw [show (({ r with turn := r.turn + 1 } : Run).turn - 1) = r.turn by simp] at hst
  simp only [hp] at hst
  have htg := target_ref r.path.l r.path.n at_ ha hl
  refine pc_of (fn := c81) rfl rfl ?_
  delta c81
  simp only [go_sem, regs0, ↓reduceIte, Nat.reduceAdd, Nat.reduceEqDiff, Nat.reduceBEq, Nat.reduceBNe, Nat.reduceLeDiff, Nat.reduceLT, reduceCtorEq, decide_true, decide_false, List.length_map, Int.reduceLT, Int.reduceLE, Int.reduceBEq, Int.reduceAdd, Int.reduceSub, Int.reduceToNat, hw, hst, nat_pos, Int.toNat_natCast, map_get ha, htg, ref_due]
  repeat' (first | (refine WGuard_splitN (fun hc => ?_) (fun hc => ?_) <;> (try simp only [go_sem, regs0, ↓reduceIte, Nat.reduceAdd, Nat.reduceEqDiff, Nat.reduceBEq, Nat.reduceBNe, Nat.reduceLeDiff, Nat.reduceLT, reduceCtorEq, decide_true, decide_false, List.length_map, Int.reduceLT, Int.reduceLE, Int.reduceBEq, Int.reduceAdd, Int.reduceSub, Int.reduceToNat, hc, hw, hst, nat_pos, Int.toNat_natCast, map_get ha, htg, ref_due])) | (refine WBr_splitN (fun hc => ?_) (fun hc => ?_) <;> (try simp only [go_sem, regs0, ↓reduceIte, Nat.reduceAdd, Nat.reduceEqDiff, Nat.reduceBEq, Nat.reduceBNe, Nat.reduceLeDiff, Nat.reduceLT, reduceCtorEq, decide_true, decide_false, List.length_map, Int.reduceLT, Int.reduceLE, Int.reduceBEq, Int.reduceAdd, Int.reduceSub, Int.reduceToNat, hc, hw, hst, nat_pos, Int.toNat_natCast, map_get ha, htg, ref_due])) | (refine WGuard_split (fun hc => ?_) (fun hc => ?_) <;> (try simp only [go_sem, regs0, ↓reduceIte, Nat.reduceAdd, Nat.reduceEqDiff, Nat.reduceBEq, Nat.reduceBNe, Nat.reduceLeDiff, Nat.reduceLT, reduceCtorEq, decide_true, decide_false, List.length_map, Int.reduceLT, Int.reduceLE, Int.reduceBEq, Int.reduceAdd, Int.reduceSub, Int.reduceToNat, hc, hw, hst, nat_pos, Int.toNat_natCast, map_get ha, htg, ref_due])) | (refine WBr_split (fun hc => ?_) (fun hc => ?_) <;> (try simp only [go_sem, regs0, ↓reduceIte, Nat.reduceAdd, Nat.reduceEqDiff, Nat.reduceBEq, Nat.reduceBNe, Nat.reduceLeDiff, Nat.reduceLT, reduceCtorEq, decide_true, decide_false, List.length_map, Int.reduceLT, Int.reduceLE, Int.reduceBEq, Int.reduceAdd, Int.reduceSub, Int.reduceToNat, hc, hw, hst, nat_pos, Int.toNat_natCast, map_get ha, htg, ref_due])))
  all_goals (congr 1; simp_all [turnAt, stayP, phaseP])
end Go.Proofs.Ytnijbejobbajfaa.E
