/- Shaken copy of a longer text: what one law needs. Its conditions: none. -/
import Derived.Test.YtnijbejobbajfaaZDSpDisp3
import Derived.Test.YtnijbejobbajfaaZDSpListen7
set_option linter.unusedSimpArgs false
set_option linter.unusedVariables false
set_option linter.unusedSectionVars false
set_option linter.unnecessarySimpa false
namespace Go.Proofs.Ytnijbejobbajfaa.D
open Go.AI
def placeP (n k : Int) : Int × Bool := if k < n then (n - 1 - k, true) else (k - n, false)
theorem place_run (r : Run) (k : Int) (hl : r.path.l.length ≤ 2 ^ 31) (h0 : -1 ≤ k) (h1 : k ≤ 2 ^ 40) : pc prog 91 [eRun r, .int .i64 k] = some (.tuple [.int .i64 (placeP r.path.l.length k).1, .bool (placeP r.path.l.length k).2]) := by
  refine pc_of (fn := c91) rfl rfl ?_
  delta c91
  have w1 : IntKind.i64.wrap ((r.path.l.length : Int) - 1) = (r.path.l.length : Int) - 1 := by rw [IntKind.wrap_i64]; omega
  have w2 : IntKind.i64.wrap ((r.path.l.length : Int) - 1 - k) = (r.path.l.length : Int) - 1 - k := by rw [IntKind.wrap_i64]; omega
  have w3 : IntKind.i64.wrap (k - (r.path.l.length : Int)) = k - (r.path.l.length : Int) := by rw [IntKind.wrap_i64]; omega
  simp only [go_sem, regs0, ↓reduceIte, Nat.reduceAdd, Nat.reduceEqDiff, Nat.reduceBEq, Nat.reduceBNe, Nat.reduceLeDiff, Nat.reduceLT, reduceCtorEq, decide_true, decide_false, List.length_map, Int.reduceLT, Int.reduceLE, Int.reduceBEq, Int.reduceAdd, Int.reduceSub, Int.reduceToNat, w1, w2, w3]
  repeat' (first | (refine WGuard_splitN (fun hc => ?_) (fun hc => ?_) <;> (try simp only [go_sem, regs0, ↓reduceIte, Nat.reduceAdd, Nat.reduceEqDiff, Nat.reduceBEq, Nat.reduceBNe, Nat.reduceLeDiff, Nat.reduceLT, reduceCtorEq, decide_true, decide_false, List.length_map, Int.reduceLT, Int.reduceLE, Int.reduceBEq, Int.reduceAdd, Int.reduceSub, Int.reduceToNat, hc, w1, w2, w3])) | (refine WBr_splitN (fun hc => ?_) (fun hc => ?_) <;> (try simp only [go_sem, regs0, ↓reduceIte, Nat.reduceAdd, Nat.reduceEqDiff, Nat.reduceBEq, Nat.reduceBNe, Nat.reduceLeDiff, Nat.reduceLT, reduceCtorEq, decide_true, decide_false, List.length_map, Int.reduceLT, Int.reduceLE, Int.reduceBEq, Int.reduceAdd, Int.reduceSub, Int.reduceToNat, hc, w1, w2, w3])) | (refine WGuard_split (fun hc => ?_) (fun hc => ?_) <;> (try simp only [go_sem, regs0, ↓reduceIte, Nat.reduceAdd, Nat.reduceEqDiff, Nat.reduceBEq, Nat.reduceBNe, Nat.reduceLeDiff, Nat.reduceLT, reduceCtorEq, decide_true, decide_false, List.length_map, Int.reduceLT, Int.reduceLE, Int.reduceBEq, Int.reduceAdd, Int.reduceSub, Int.reduceToNat, hc, w1, w2, w3])) | (refine WBr_split (fun hc => ?_) (fun hc => ?_) <;> (try simp only [go_sem, regs0, ↓reduceIte, Nat.reduceAdd, Nat.reduceEqDiff, Nat.reduceBEq, Nat.reduceBNe, Nat.reduceLeDiff, Nat.reduceLT, reduceCtorEq, decide_true, decide_false, List.length_map, Int.reduceLT, Int.reduceLE, Int.reduceBEq, Int.reduceAdd, Int.reduceSub, Int.reduceToNat, hc, w1, w2, w3])))
  · have h : k < (r.path.l.length : Int) := by simpa using hc
    rw [placeP, if_pos h]
  · have h : ¬ k < (r.path.l.length : Int) := by simpa using hc
    rw [placeP, if_neg h]
def targetL : List Step → Int → Int
  | [], t => t
  | s :: r, t => targetL r (if s.target = 0 then t else s.target)
theorem target_app (a : List Step) (s : Step) (t : Int) : targetL (a ++ [s]) t = if s.target = 0 then targetL a t else s.target := by
  induction a generalizing t with
  | nil => rfl
  | cons x a ih => simp only [List.cons_append, targetL, ih]
end Go.Proofs.Ytnijbejobbajfaa.D
