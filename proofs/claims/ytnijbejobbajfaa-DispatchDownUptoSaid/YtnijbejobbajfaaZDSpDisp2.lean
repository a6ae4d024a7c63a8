/- Shaken copy of a longer text: what one law needs. Its conditions: none. -/
import Derived.Test.YtnijbejobbajfaaZDSpDisp1
set_option linter.unusedSimpArgs false
set_option linter.unusedVariables false
set_option linter.unusedSectionVars false
set_option linter.unnecessarySimpa false
namespace Go.Proofs.Ytnijbejobbajfaa.D
open Go.AI
def beginP (n : Bool) (path : List Step) (e : Event) (clears : Bool) : Run × Int :=
  if 4096 < path.length then (.zero, 3) else if 1024 < e.type_.length then (.zero, 4) else if e.dispatching = true then (.zero, 15) else (⟨{ e with dispatching := true, passive := false, phase := 0, current := 0 }, ⟨n, path⟩, 0, ⟨true, []⟩, clears⟩, 0)
theorem begin_prg (n : Bool) (path : List Step) (e : Event) (clears : Bool) (hn : n = true → path = []) (hl : path.length ≤ 2 ^ 31) : pc prog 36 [.list n (path.map eStep), eEvent e, .bool clears] = some (.tuple [eRun (beginP n path e clears).1, .int .i64 (beginP n path e clears).2]) := by
  refine pc_of (fn := c36) rfl rfl ?_
  delta c36
  simp only [go_sem, regs0, ↓reduceIte, Nat.reduceAdd, Nat.reduceEqDiff, Nat.reduceBEq, Nat.reduceBNe, Nat.reduceLeDiff, Nat.reduceLT, reduceCtorEq, decide_true, decide_false, List.length_map, Int.reduceLT, Int.reduceLE, Int.reduceBEq, Int.reduceAdd, Int.reduceSub, Int.reduceToNat, step_clone n path hn hl]
  repeat' (first | (refine WGuard_splitN (fun hc => ?_) (fun hc => ?_) <;> (try simp only [go_sem, regs0, ↓reduceIte, Nat.reduceAdd, Nat.reduceEqDiff, Nat.reduceBEq, Nat.reduceBNe, Nat.reduceLeDiff, Nat.reduceLT, reduceCtorEq, decide_true, decide_false, List.length_map, Int.reduceLT, Int.reduceLE, Int.reduceBEq, Int.reduceAdd, Int.reduceSub, Int.reduceToNat, hc, step_clone n path hn hl])) | (refine WBr_splitN (fun hc => ?_) (fun hc => ?_) <;> (try simp only [go_sem, regs0, ↓reduceIte, Nat.reduceAdd, Nat.reduceEqDiff, Nat.reduceBEq, Nat.reduceBNe, Nat.reduceLeDiff, Nat.reduceLT, reduceCtorEq, decide_true, decide_false, List.length_map, Int.reduceLT, Int.reduceLE, Int.reduceBEq, Int.reduceAdd, Int.reduceSub, Int.reduceToNat, hc, step_clone n path hn hl])) | (refine WGuard_split (fun hc => ?_) (fun hc => ?_) <;> (try simp only [go_sem, regs0, ↓reduceIte, Nat.reduceAdd, Nat.reduceEqDiff, Nat.reduceBEq, Nat.reduceBNe, Nat.reduceLeDiff, Nat.reduceLT, reduceCtorEq, decide_true, decide_false, List.length_map, Int.reduceLT, Int.reduceLE, Int.reduceBEq, Int.reduceAdd, Int.reduceSub, Int.reduceToNat, hc, step_clone n path hn hl])) | (refine WBr_split (fun hc => ?_) (fun hc => ?_) <;> (try simp only [go_sem, regs0, ↓reduceIte, Nat.reduceAdd, Nat.reduceEqDiff, Nat.reduceBEq, Nat.reduceBNe, Nat.reduceLeDiff, Nat.reduceLT, reduceCtorEq, decide_true, decide_false, List.length_map, Int.reduceLT, Int.reduceLE, Int.reduceBEq, Int.reduceAdd, Int.reduceSub, Int.reduceToNat, hc, step_clone n path hn hl])))
  · have h1 : 4096 < path.length := by simp at hc; omega
    rw [beginP, if_pos h1]; rfl
  · rename_i h1
    have h1 : ¬ 4096 < path.length := by simp at h1; omega
    have h2 : 1024 < e.type_.length := by simp at hc; omega
    rw [beginP, if_neg h1, if_pos h2]; rfl
  · rename_i h1 h2
    have h1 : ¬ 4096 < path.length := by simp at h1; omega
    have h2 : ¬ 1024 < e.type_.length := by simp at h2; omega
    rw [beginP, if_neg h1, if_neg h2, if_pos hc]; rfl
  · rename_i h1 h2
    have h1 : ¬ 4096 < path.length := by simp at h1; omega
    have h2 : ¬ 1024 < e.type_.length := by simp at h2; omega
    rw [beginP, if_neg h1, if_neg h2, if_neg (by simp [hc])]; rfl
theorem own_prg (r : Run) (h1 : r.path.n = true → r.path.l = []) (h2 : r.due.n = true → r.due.l = []) (hl : r.path.l.length ≤ 2 ^ 31) (hd : r.due.l.length ≤ 2 ^ 31) : pc prog 75 [eRun r] = some (eRun r) := by
  refine pc_of (fn := c75) rfl rfl ?_
  delta c75
  simp only [go_sem, regs0, ↓reduceIte, Nat.reduceAdd, Nat.reduceEqDiff, Nat.reduceBEq, Nat.reduceBNe, Nat.reduceLeDiff, Nat.reduceLT, reduceCtorEq, decide_true, decide_false, List.length_map, Int.reduceLT, Int.reduceLE, Int.reduceBEq, Int.reduceAdd, Int.reduceSub, Int.reduceToNat, step_clone r.path.n r.path.l h1 hl, int_clone r.due.n r.due.l h2 hd]
def endedP (r : Run) : Bool := rightP r && r.turn == 2 * r.path.l.length && r.due.l.length == 0
theorem ended_prg (r : Run) (hl : r.path.l.length ≤ 2 ^ 31) : pc prog 41 [eRun r] = some (.bool (endedP r)) := by
  refine pc_of (fn := c41) rfl rfl ?_
  delta c41
  have hw := wrap_two (n := r.path.l.length) (by omega)
  simp only [go_sem, regs0, ↓reduceIte, Nat.reduceAdd, Nat.reduceEqDiff, Nat.reduceBEq, Nat.reduceBNe, Nat.reduceLeDiff, Nat.reduceLT, reduceCtorEq, decide_true, decide_false, List.length_map, Int.reduceLT, Int.reduceLE, Int.reduceBEq, Int.reduceAdd, Int.reduceSub, Int.reduceToNat, hw, right_prg r hl]
  repeat' (first | (refine WGuard_splitN (fun hc => ?_) (fun hc => ?_) <;> (try simp only [go_sem, regs0, ↓reduceIte, Nat.reduceAdd, Nat.reduceEqDiff, Nat.reduceBEq, Nat.reduceBNe, Nat.reduceLeDiff, Nat.reduceLT, reduceCtorEq, decide_true, decide_false, List.length_map, Int.reduceLT, Int.reduceLE, Int.reduceBEq, Int.reduceAdd, Int.reduceSub, Int.reduceToNat, hc, hw, right_prg r hl])) | (refine WBr_splitN (fun hc => ?_) (fun hc => ?_) <;> (try simp only [go_sem, regs0, ↓reduceIte, Nat.reduceAdd, Nat.reduceEqDiff, Nat.reduceBEq, Nat.reduceBNe, Nat.reduceLeDiff, Nat.reduceLT, reduceCtorEq, decide_true, decide_false, List.length_map, Int.reduceLT, Int.reduceLE, Int.reduceBEq, Int.reduceAdd, Int.reduceSub, Int.reduceToNat, hc, hw, right_prg r hl])) | (refine WGuard_split (fun hc => ?_) (fun hc => ?_) <;> (try simp only [go_sem, regs0, ↓reduceIte, Nat.reduceAdd, Nat.reduceEqDiff, Nat.reduceBEq, Nat.reduceBNe, Nat.reduceLeDiff, Nat.reduceLT, reduceCtorEq, decide_true, decide_false, List.length_map, Int.reduceLT, Int.reduceLE, Int.reduceBEq, Int.reduceAdd, Int.reduceSub, Int.reduceToNat, hc, hw, right_prg r hl])) | (refine WBr_split (fun hc => ?_) (fun hc => ?_) <;> (try simp only [go_sem, regs0, ↓reduceIte, Nat.reduceAdd, Nat.reduceEqDiff, Nat.reduceBEq, Nat.reduceBNe, Nat.reduceLeDiff, Nat.reduceLT, reduceCtorEq, decide_true, decide_false, List.length_map, Int.reduceLT, Int.reduceLE, Int.reduceBEq, Int.reduceAdd, Int.reduceSub, Int.reduceToNat, hc, hw, right_prg r hl])))
  all_goals (try simp_all [Reads_d, endedP]); all_goals (try omega); all_goals (try (rw [Bool.eq_iff_iff]; simp_all)); all_goals (try omega)
def endP (r : Run) : Event × Bool × Int :=
  if endedP r = true then ((let e := { r.event with dispatching := false, stop := false, stopNow := false, passive := false, phase := 0, current := 0 }; if r.clears = true then { e with target := 0, related := 0 } else e), !r.event.canceled, 0) else (.zero, false, 15)
theorem end_prg (r : Run) (hl : r.path.l.length ≤ 2 ^ 31) : pc prog 38 [eRun r] = some (.tuple [eEvent (endP r).1, .bool (endP r).2.1, .int .i64 (endP r).2.2]) := by
  refine pc_of (fn := c38) rfl rfl ?_
  delta c38
  simp only [go_sem, regs0, ↓reduceIte, Nat.reduceAdd, Nat.reduceEqDiff, Nat.reduceBEq, Nat.reduceBNe, Nat.reduceLeDiff, Nat.reduceLT, reduceCtorEq, decide_true, decide_false, List.length_map, Int.reduceLT, Int.reduceLE, Int.reduceBEq, Int.reduceAdd, Int.reduceSub, Int.reduceToNat, ended_prg r hl]
  repeat' (first | (refine WGuard_splitN (fun hc => ?_) (fun hc => ?_) <;> (try simp only [go_sem, regs0, ↓reduceIte, Nat.reduceAdd, Nat.reduceEqDiff, Nat.reduceBEq, Nat.reduceBNe, Nat.reduceLeDiff, Nat.reduceLT, reduceCtorEq, decide_true, decide_false, List.length_map, Int.reduceLT, Int.reduceLE, Int.reduceBEq, Int.reduceAdd, Int.reduceSub, Int.reduceToNat, hc, ended_prg r hl])) | (refine WBr_splitN (fun hc => ?_) (fun hc => ?_) <;> (try simp only [go_sem, regs0, ↓reduceIte, Nat.reduceAdd, Nat.reduceEqDiff, Nat.reduceBEq, Nat.reduceBNe, Nat.reduceLeDiff, Nat.reduceLT, reduceCtorEq, decide_true, decide_false, List.length_map, Int.reduceLT, Int.reduceLE, Int.reduceBEq, Int.reduceAdd, Int.reduceSub, Int.reduceToNat, hc, ended_prg r hl])) | (refine WGuard_split (fun hc => ?_) (fun hc => ?_) <;> (try simp only [go_sem, regs0, ↓reduceIte, Nat.reduceAdd, Nat.reduceEqDiff, Nat.reduceBEq, Nat.reduceBNe, Nat.reduceLeDiff, Nat.reduceLT, reduceCtorEq, decide_true, decide_false, List.length_map, Int.reduceLT, Int.reduceLE, Int.reduceBEq, Int.reduceAdd, Int.reduceSub, Int.reduceToNat, hc, ended_prg r hl])) | (refine WBr_split (fun hc => ?_) (fun hc => ?_) <;> (try simp only [go_sem, regs0, ↓reduceIte, Nat.reduceAdd, Nat.reduceEqDiff, Nat.reduceBEq, Nat.reduceBNe, Nat.reduceLeDiff, Nat.reduceLT, reduceCtorEq, decide_true, decide_false, List.length_map, Int.reduceLT, Int.reduceLE, Int.reduceBEq, Int.reduceAdd, Int.reduceSub, Int.reduceToNat, hc, ended_prg r hl])))
  · have h : endP r = (.zero, false, 15) := by rw [endP, if_neg (by simp [hc])]
    rw [h]; rfl
  · rename_i h1
    rw [endP, if_pos h1]
    simp only [hc, if_true]
    try rfl
  · rename_i h1
    rw [endP, if_pos h1]
    simp only [hc, Bool.false_eq_true, if_false]
    try rfl
def actE (e : Event) (does : Int) : Event := { e with stop := e.stop || does == 1 || does == 2, stopNow := e.stopNow || does == 2, canceled := e.canceled || (does == 3 && e.cancelable && !e.passive) }
def actP (n m : Bool) (r : Run) (does : Int) : Run × Int :=
  if ¬ rightP r = true then (.zero, 15) else if 4 ≤ does then (.zero, 23) else ({ r with event := actE r.event does, path := ⟨n, r.path.l⟩, due := ⟨m, r.due.l⟩ }, 0)
theorem act_prg (r : Run) (does : Int) (h1 : r.path.n = true → r.path.l = []) (h2 : r.due.n = true → r.due.l = []) (hl : r.path.l.length ≤ 2 ^ 31) (hd : r.due.l.length ≤ 2 ^ 31) : pc prog 48 [eRun r, .int .u8 does] = some (.tuple [eRun (actP r.path.n r.due.n r does).1, .int .i64 (actP r.path.n r.due.n r does).2]) := by
  refine pc_of (fn := c48) rfl rfl ?_
  delta c48
  simp only [go_sem, regs0, ↓reduceIte, Nat.reduceAdd, Nat.reduceEqDiff, Nat.reduceBEq, Nat.reduceBNe, Nat.reduceLeDiff, Nat.reduceLT, reduceCtorEq, decide_true, decide_false, List.length_map, Int.reduceLT, Int.reduceLE, Int.reduceBEq, Int.reduceAdd, Int.reduceSub, Int.reduceToNat, right_prg r hl, own_prg r h1 h2 hl hd]
  repeat' (first | (refine WGuard_splitN (fun hc => ?_) (fun hc => ?_) <;> (try simp only [go_sem, regs0, ↓reduceIte, Nat.reduceAdd, Nat.reduceEqDiff, Nat.reduceBEq, Nat.reduceBNe, Nat.reduceLeDiff, Nat.reduceLT, reduceCtorEq, decide_true, decide_false, List.length_map, Int.reduceLT, Int.reduceLE, Int.reduceBEq, Int.reduceAdd, Int.reduceSub, Int.reduceToNat, hc, right_prg r hl, own_prg r h1 h2 hl hd])) | (refine WBr_splitN (fun hc => ?_) (fun hc => ?_) <;> (try simp only [go_sem, regs0, ↓reduceIte, Nat.reduceAdd, Nat.reduceEqDiff, Nat.reduceBEq, Nat.reduceBNe, Nat.reduceLeDiff, Nat.reduceLT, reduceCtorEq, decide_true, decide_false, List.length_map, Int.reduceLT, Int.reduceLE, Int.reduceBEq, Int.reduceAdd, Int.reduceSub, Int.reduceToNat, hc, right_prg r hl, own_prg r h1 h2 hl hd])) | (refine WGuard_split (fun hc => ?_) (fun hc => ?_) <;> (try simp only [go_sem, regs0, ↓reduceIte, Nat.reduceAdd, Nat.reduceEqDiff, Nat.reduceBEq, Nat.reduceBNe, Nat.reduceLeDiff, Nat.reduceLT, reduceCtorEq, decide_true, decide_false, List.length_map, Int.reduceLT, Int.reduceLE, Int.reduceBEq, Int.reduceAdd, Int.reduceSub, Int.reduceToNat, hc, right_prg r hl, own_prg r h1 h2 hl hd])) | (refine WBr_split (fun hc => ?_) (fun hc => ?_) <;> (try simp only [go_sem, regs0, ↓reduceIte, Nat.reduceAdd, Nat.reduceEqDiff, Nat.reduceBEq, Nat.reduceBNe, Nat.reduceLeDiff, Nat.reduceLT, reduceCtorEq, decide_true, decide_false, List.length_map, Int.reduceLT, Int.reduceLE, Int.reduceBEq, Int.reduceAdd, Int.reduceSub, Int.reduceToNat, hc, right_prg r hl, own_prg r h1 h2 hl hd])))
  · rw [actP, if_pos (by simp [hc])]; rfl
  · rename_i h
    rw [actP, if_neg (by simp [h]), if_pos (by simpa using hc)]; rfl
  all_goals
    rw [actP, if_neg (by simp_all), if_neg (by simp_all)]
    have he : ∀ e, e = actE r.event does → D.tuple [eRun { r with event := e }, .int .i64 0] = D.tuple [eRun { r with event := actE r.event does }, .int .i64 0] := fun e h => by rw [h]
    refine he _ ?_
    simp_all [actE]
end Go.Proofs.Ytnijbejobbajfaa.D
