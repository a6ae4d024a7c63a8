/- Shaken copy of a longer text: what one law needs. Its conditions: none. -/
import Derived.Test.YtnijbejobbajfaaZESpDisp1
set_option linter.unusedSimpArgs false
set_option linter.unusedVariables false
set_option linter.unusedSectionVars false
set_option linter.unnecessarySimpa false
namespace Go.Proofs.Ytnijbejobbajfaa.E
open Go.AI
def beginP (n : Bool) (path : List Step) (e : Event) (clears : Bool) : Run × Int :=
  if 4096 < path.length then (.zero, 3) else if 1024 < e.type_.length then (.zero, 4) else if e.dispatching = true then (.zero, 15) else (⟨{ e with dispatching := true, passive := false, phase := 0, current := 0 }, ⟨n, path⟩, 0, ⟨true, []⟩, clears⟩, 0)
theorem begin_prg (n : Bool) (path : List Step) (e : Event) (clears : Bool) (hn : n = true → path = []) (hl : path.length ≤ 2 ^ 31) : pc prog 36 [.list n (path.map eStep), eEvent e, .bool clears] = some (.tuple [eRun (beginP n path e clears).1, .int .i64 (beginP n path e clears).2]) := by
  refine pc_of (fn := c36) rfl rfl ?_
  delta c36
  simp only [go_sem, regs0, ↓reduceIte, Nat.reduceAdd, Nat.reduceEqDiff, Nat.reduceBEq, Nat.reduceBNe, Nat.reduceLeDiff, Nat.reduceLT, reduceCtorEq, decide_true, decide_false, List.length_map, Int.reduceLT, Int.reduceLE, Int.reduceBEq, Int.reduceAdd, Int.reduceSub, Int.reduceToNat, step_clone n path hn hl]
  repeat' (first | (refine WGuard_splitN (fun hc => ?_) (fun hc => ?_) <;> (try simp only [go_sem, regs0, ↓reduceIte, Nat.reduceAdd, Nat.reduceEqDiff, Nat.reduceBEq, Nat.reduceBNe, Nat.reduceLeDiff, Nat.reduceLT, reduceCtorEq, decide_true, decide_false, List.length_map, Int.reduceLT, Int.reduceLE, Int.reduceBEq, Int.reduceAdd, Int.reduceSub, Int.reduceToNat, hc, step_clone n path hn hl])) | (refine WBr_splitN (fun hc => ?_) (fun hc => ?_) <;> (try simp only [go_sem, regs0, ↓reduceIte, Nat.reduceAdd, Nat.reduceEqDiff, Nat.reduceBEq, Nat.reduceBNe, Nat.reduceLeDiff, Nat.reduceLT, reduceCtorEq, decide_true, decide_false, List.length_map, Int.reduceLT, Int.reduceLE, Int.reduceBEq, Int.reduceAdd, Int.reduceSub, Int.reduceToNat, hc, step_clone n path hn hl])) | (refine WGuard_split (fun hc => ?_) (fun hc => ?_) <;> (try simp only [go_sem, regs0, ↓reduceIte, Nat.reduceAdd, Nat.reduceEqDiff, Nat.reduceBEq, Nat.reduceBNe, Nat.reduceLeDiff, Nat.reduceLT, reduceCtorEq, decide_true, decide_false, List.length_map, Int.reduceLT, Int.reduceLE, Int.reduceBEq, Int.reduceAdd, Int.reduceSub, Int.reduceToNat, hc, step_clone n path hn hl])) | (refine WBr_split (fun hc => ?_) (fun hc => ?_) <;> (try simp only [go_sem, regs0, ↓reduceIte, Nat.reduceAdd, Nat.reduceEqDiff, Nat.reduceBEq, Nat.reduceBNe, Nat.reduceLeDiff, Nat.reduceLT, reduceCtorEq, decide_true, decide_false, List.length_map, Int.reduceLT, Int.reduceLE, Int.reduceBEq, Int.reduceAdd, Int.reduceSub, Int.reduceToNat, hc, step_clone n path hn hl])))
  · have h1 : 4096 < path.length := by simp at hc; omega
    rw [beginP, if_pos h1]; rfl
  · rename_i h1
    have h1 : ¬ 4096 < path.length := by simp at h1; omega
    have h2 : 1024 < e.type_.length := by simp at hc; omega
    rw [beginP, if_neg h1, if_pos h2]; rfl
  · rename_i h1 h2
    have h1 : ¬ 4096 < path.length := by simp at h1; omega
    have h2 : ¬ 1024 < e.type_.length := by simp at h2; omega
    rw [beginP, if_neg h1, if_neg h2, if_pos hc]; rfl
  · rename_i h1 h2
    have h1 : ¬ 4096 < path.length := by simp at h1; omega
    have h2 : ¬ 1024 < e.type_.length := by simp at h2; omega
    rw [beginP, if_neg h1, if_neg h2, if_neg (by simp [hc])]; rfl
theorem begin_ref (n : Bool) (path : List Step) (e : Event) (clears : Bool) (hl : path.length ≤ 2 ^ 31) : pc prog 37 [.list n (path.map eStep), eEvent e, .bool clears] = some (.tuple [eRun (beginP false path e clears).1, .int .i64 (beginP false path e clears).2]) := by
  refine pc_of (fn := c37) rfl rfl ?_
  have hroom : path.length * 40 ≤ AI.roomBytes := room_le (n := path.length) (bytes := 40) (by omega) (by decide)
  delta c37
  simp only [go_sem, regs0, ↓reduceIte, Nat.reduceAdd, Nat.reduceEqDiff, Nat.reduceBEq, Nat.reduceBNe, Nat.reduceLeDiff, Nat.reduceLT, reduceCtorEq, decide_true, decide_false, List.length_map, Int.reduceLT, Int.reduceLE, Int.reduceBEq, Int.reduceAdd, Int.reduceSub, Int.reduceToNat]
  repeat' (first | (refine WGuard_splitN (fun hc => ?_) (fun hc => ?_) <;> (try simp only [go_sem, regs0, ↓reduceIte, Nat.reduceAdd, Nat.reduceEqDiff, Nat.reduceBEq, Nat.reduceBNe, Nat.reduceLeDiff, Nat.reduceLT, reduceCtorEq, decide_true, decide_false, List.length_map, Int.reduceLT, Int.reduceLE, Int.reduceBEq, Int.reduceAdd, Int.reduceSub, Int.reduceToNat, hc, appV_eq])) | (refine WBr_splitN (fun hc => ?_) (fun hc => ?_) <;> (try simp only [go_sem, regs0, ↓reduceIte, Nat.reduceAdd, Nat.reduceEqDiff, Nat.reduceBEq, Nat.reduceBNe, Nat.reduceLeDiff, Nat.reduceLT, reduceCtorEq, decide_true, decide_false, List.length_map, Int.reduceLT, Int.reduceLE, Int.reduceBEq, Int.reduceAdd, Int.reduceSub, Int.reduceToNat, hc, appV_eq])) | (refine WGuard_split (fun hc => ?_) (fun hc => ?_) <;> (try simp only [go_sem, regs0, ↓reduceIte, Nat.reduceAdd, Nat.reduceEqDiff, Nat.reduceBEq, Nat.reduceBNe, Nat.reduceLeDiff, Nat.reduceLT, reduceCtorEq, decide_true, decide_false, List.length_map, Int.reduceLT, Int.reduceLE, Int.reduceBEq, Int.reduceAdd, Int.reduceSub, Int.reduceToNat, hc, appV_eq])) | (refine WBr_split (fun hc => ?_) (fun hc => ?_) <;> (try simp only [go_sem, regs0, ↓reduceIte, Nat.reduceAdd, Nat.reduceEqDiff, Nat.reduceBEq, Nat.reduceBNe, Nat.reduceLeDiff, Nat.reduceLT, reduceCtorEq, decide_true, decide_false, List.length_map, Int.reduceLT, Int.reduceLE, Int.reduceBEq, Int.reduceAdd, Int.reduceSub, Int.reduceToNat, hc, appV_eq])))
  · have h1 : 4096 < path.length := by simp at hc; omega
    rw [beginP, if_pos h1]; rfl
  · rename_i h1
    have h1 : ¬ 4096 < path.length := by simp at h1; omega
    have h2 : 1024 < e.type_.length := by simp at hc; omega
    rw [beginP, if_neg h1, if_pos h2]; rfl
  · rename_i h1 h2
    have h1 : ¬ 4096 < path.length := by simp at h1; omega
    have h2 : ¬ 1024 < e.type_.length := by simp at h2; omega
    rw [beginP, if_neg h1, if_neg h2, if_pos hc]; rfl
  · rename_i h1 h2
    have h1 : ¬ 4096 < path.length := by simp at h1; omega
    have h2 : ¬ 1024 < e.type_.length := by simp at h2; omega
    rw [beginP, if_neg h1, if_neg h2, if_neg (by simp [hc])]
    have hlm : ((path.map eStep).map V.d).length = path.length := by simp
    have hmm : (path.map eStep).map V.d = path.map fun y => V.d (eStep y) := by simp
    refine WVal_copy ?_ (eStep_sizedm _) (by rw [hlm]; exact hroom) ?_
    · simp only [go_sem, regs0, ↓reduceIte, Nat.reduceAdd, Nat.reduceEqDiff, Nat.reduceBEq, Nat.reduceBNe, Nat.reduceLeDiff, Nat.reduceLT, reduceCtorEq, decide_true, decide_false, List.length_map, Int.reduceLT, Int.reduceLE, Int.reduceBEq, Int.reduceAdd, Int.reduceSub, Int.reduceToNat]
    rintro c H gc hn hcc hk
    have hcn : ∀ j, j < 24 → (c = j) = False := fun j hj => by simp; omega
    have g1 := hk 1 (by decide) (by decide)
    have g0 := hk 0 (by decide) (by decide)
    rw [hmm] at gc
    simp only [go_sem, regs0, ↓reduceIte, Nat.reduceAdd, Nat.reduceEqDiff, Nat.reduceBEq, Nat.reduceBNe, Nat.reduceLeDiff, Nat.reduceLT, reduceCtorEq, decide_true, decide_false, List.length_map, Int.reduceLT, Int.reduceLE, Int.reduceBEq, Int.reduceAdd, Int.reduceSub, Int.reduceToNat] at g1 g0 hn
    simp only [go_sem, regs0, ↓reduceIte, Nat.reduceAdd, Nat.reduceEqDiff, Nat.reduceBEq, Nat.reduceBNe, Nat.reduceLeDiff, Nat.reduceLT, reduceCtorEq, decide_true, decide_false, List.length_map, Int.reduceLT, Int.reduceLE, Int.reduceBEq, Int.reduceAdd, Int.reduceSub, Int.reduceToNat, g0, g1, hn, hlm, hcn, gc, Reads_eq, resB_mapF]
    rfl
theorem own_prg (r : Run) (h1 : r.path.n = true → r.path.l = []) (h2 : r.due.n = true → r.due.l = []) (hl : r.path.l.length ≤ 2 ^ 31) (hd : r.due.l.length ≤ 2 ^ 31) : pc prog 75 [eRun r] = some (eRun r) := by
  refine pc_of (fn := c75) rfl rfl ?_
  delta c75
  simp only [go_sem, regs0, ↓reduceIte, Nat.reduceAdd, Nat.reduceEqDiff, Nat.reduceBEq, Nat.reduceBNe, Nat.reduceLeDiff, Nat.reduceLT, reduceCtorEq, decide_true, decide_false, List.length_map, Int.reduceLT, Int.reduceLE, Int.reduceBEq, Int.reduceAdd, Int.reduceSub, Int.reduceToNat, step_clone r.path.n r.path.l h1 hl, int_clone r.due.n r.due.l h2 hd]
theorem copy_ref (r : Run) (hl : r.path.l.length ≤ 2 ^ 31) (hd : r.due.l.length ≤ 2 ^ 31) : pc prog 45 [eRun r] = some (eRun { r with path := ⟨false, r.path.l⟩, due := ⟨false, r.due.l⟩ }) := by
  refine pc_of (fn := c45) rfl rfl ?_
  delta c45
  simp only [go_sem, regs0, ↓reduceIte, Nat.reduceAdd, Nat.reduceEqDiff, Nat.reduceBEq, Nat.reduceBNe, Nat.reduceLeDiff, Nat.reduceLT, reduceCtorEq, decide_true, decide_false, List.length_map, Int.reduceLT, Int.reduceLE, Int.reduceBEq, Int.reduceAdd, Int.reduceSub, Int.reduceToNat, appV_eq]
  have hlm : ((r.path.l.map eStep).map V.d).length = r.path.l.length := by simp
  have hmm : (r.path.l.map eStep).map V.d = r.path.l.map fun y => V.d (eStep y) := by simp
  have hlm2 : ((r.due.l.map (D.int .i64)).map V.d).length = r.due.l.length := by simp
  have hmm2 : (r.due.l.map (D.int .i64)).map V.d = r.due.l.map fun y => V.d (.int .i64 y) := by simp
  refine WVal_copy ?_ (eStep_sizedm _) (by rw [hlm]; exact room_le (n := r.path.l.length) (bytes := 40) (by omega) (by decide)) ?_
  · simp only [go_sem, regs0, ↓reduceIte, Nat.reduceAdd, Nat.reduceEqDiff, Nat.reduceBEq, Nat.reduceBNe, Nat.reduceLeDiff, Nat.reduceLT, reduceCtorEq, decide_true, decide_false, List.length_map, Int.reduceLT, Int.reduceLE, Int.reduceBEq, Int.reduceAdd, Int.reduceSub, Int.reduceToNat]
  rintro c H gc hn hcc hk
  have hcn : ∀ j, j < 2 → (c = j) = False := fun j hj => by simp; omega
  have g1 := hk 1 (by decide) (by decide)
  have g0 := hk 0 (by decide) (by decide)
  rw [hmm] at gc
  simp only [go_sem, regs0, ↓reduceIte, Nat.reduceAdd, Nat.reduceEqDiff, Nat.reduceBEq, Nat.reduceBNe, Nat.reduceLeDiff, Nat.reduceLT, reduceCtorEq, decide_true, decide_false, List.length_map, Int.reduceLT, Int.reduceLE, Int.reduceBEq, Int.reduceAdd, Int.reduceSub, Int.reduceToNat, eRun] at g1 g0 hn
  simp only [go_sem, regs0, ↓reduceIte, Nat.reduceAdd, Nat.reduceEqDiff, Nat.reduceBEq, Nat.reduceBNe, Nat.reduceLeDiff, Nat.reduceLT, reduceCtorEq, decide_true, decide_false, List.length_map, Int.reduceLT, Int.reduceLE, Int.reduceBEq, Int.reduceAdd, Int.reduceSub, Int.reduceToNat, g0, g1, hn, hlm, hcn, gc, appV_eq, eRun]
  refine WVal_copy ?_ (sized_ints _) (by rw [hlm2]; exact room_le (n := r.due.l.length) (bytes := 8) (by omega) (by decide)) ?_
  · simp only [go_sem, regs0, ↓reduceIte, Nat.reduceAdd, Nat.reduceEqDiff, Nat.reduceBEq, Nat.reduceBNe, Nat.reduceLeDiff, Nat.reduceLT, reduceCtorEq, decide_true, decide_false, List.length_map, Int.reduceLT, Int.reduceLE, Int.reduceBEq, Int.reduceAdd, Int.reduceSub, Int.reduceToNat]
  rintro c2 H2 gc2 hn2 hcc2 hk2
  have hcn2 : ∀ j, j < 8 → (c2 = j) = False := fun j hj => by simp; omega
  have hcc' : (c = c2) = False := by simp; omega
  have hcc'' : (c2 = c) = False := by simp; omega
  have hc8 : (c = 8) = False := by simp; omega
  have k1 := hk2 1 (by decide) (by decide)
  have k0 := hk2 0 (by decide) (by decide)
  have kc := hk2 c (by omega) (by omega)
  rw [hmm2] at gc2
  simp only [go_sem, regs0, ↓reduceIte, Nat.reduceAdd, Nat.reduceEqDiff, Nat.reduceBEq, Nat.reduceBNe, Nat.reduceLeDiff, Nat.reduceLT, reduceCtorEq, decide_true, decide_false, List.length_map, Int.reduceLT, Int.reduceLE, Int.reduceBEq, Int.reduceAdd, Int.reduceSub, Int.reduceToNat, g0, g1, gc, hcn, hc8] at k1 k0 kc hn2
  simp only [go_sem, regs0, ↓reduceIte, Nat.reduceAdd, Nat.reduceEqDiff, Nat.reduceBEq, Nat.reduceBNe, Nat.reduceLeDiff, Nat.reduceLT, reduceCtorEq, decide_true, decide_false, List.length_map, Int.reduceLT, Int.reduceLE, Int.reduceBEq, Int.reduceAdd, Int.reduceSub, Int.reduceToNat, k0, k1, hn2, hlm2, hcn, hcn2, kc, gc2, Reads_eq, resB_mapF, eRun, hcc', hcc'', hc8]
def endedP (r : Run) : Bool := rightP r && r.turn == 2 * r.path.l.length && r.due.l.length == 0
theorem ended_prg (r : Run) (hl : r.path.l.length ≤ 2 ^ 31) : pc prog 41 [eRun r] = some (.bool (endedP r)) := by
  refine pc_of (fn := c41) rfl rfl ?_
  delta c41
  have hw := wrap_two (n := r.path.l.length) (by omega)
  simp only [go_sem, regs0, ↓reduceIte, Nat.reduceAdd, Nat.reduceEqDiff, Nat.reduceBEq, Nat.reduceBNe, Nat.reduceLeDiff, Nat.reduceLT, reduceCtorEq, decide_true, decide_false, List.length_map, Int.reduceLT, Int.reduceLE, Int.reduceBEq, Int.reduceAdd, Int.reduceSub, Int.reduceToNat, hw, right_prg r hl]
  repeat' (first | (refine WGuard_splitN (fun hc => ?_) (fun hc => ?_) <;> (try simp only [go_sem, regs0, ↓reduceIte, Nat.reduceAdd, Nat.reduceEqDiff, Nat.reduceBEq, Nat.reduceBNe, Nat.reduceLeDiff, Nat.reduceLT, reduceCtorEq, decide_true, decide_false, List.length_map, Int.reduceLT, Int.reduceLE, Int.reduceBEq, Int.reduceAdd, Int.reduceSub, Int.reduceToNat, hc, hw, right_prg r hl])) | (refine WBr_splitN (fun hc => ?_) (fun hc => ?_) <;> (try simp only [go_sem, regs0, ↓reduceIte, Nat.reduceAdd, Nat.reduceEqDiff, Nat.reduceBEq, Nat.reduceBNe, Nat.reduceLeDiff, Nat.reduceLT, reduceCtorEq, decide_true, decide_false, List.length_map, Int.reduceLT, Int.reduceLE, Int.reduceBEq, Int.reduceAdd, Int.reduceSub, Int.reduceToNat, hc, hw, right_prg r hl])) | (refine WGuard_split (fun hc => ?_) (fun hc => ?_) <;> (try simp only [go_sem, regs0, ↓reduceIte, Nat.reduceAdd, Nat.reduceEqDiff, Nat.reduceBEq, Nat.reduceBNe, Nat.reduceLeDiff, Nat.reduceLT, reduceCtorEq, decide_true, decide_false, List.length_map, Int.reduceLT, Int.reduceLE, Int.reduceBEq, Int.reduceAdd, Int.reduceSub, Int.reduceToNat, hc, hw, right_prg r hl])) | (refine WBr_split (fun hc => ?_) (fun hc => ?_) <;> (try simp only [go_sem, regs0, ↓reduceIte, Nat.reduceAdd, Nat.reduceEqDiff, Nat.reduceBEq, Nat.reduceBNe, Nat.reduceLeDiff, Nat.reduceLT, reduceCtorEq, decide_true, decide_false, List.length_map, Int.reduceLT, Int.reduceLE, Int.reduceBEq, Int.reduceAdd, Int.reduceSub, Int.reduceToNat, hc, hw, right_prg r hl])))
  all_goals (try simp_all [Reads_d, endedP]); all_goals (try omega); all_goals (try (rw [Bool.eq_iff_iff]; simp_all)); all_goals (try omega)
theorem ended_ref (r : Run) (hl : r.path.l.length ≤ 2 ^ 31) : pc prog 42 [eRun r] = some (.bool (endedP r)) := by
  refine pc_of (fn := c42) rfl rfl ?_
  delta c42
  have hw := wrap_two (n := r.path.l.length) (by omega)
  simp only [go_sem, regs0, ↓reduceIte, Nat.reduceAdd, Nat.reduceEqDiff, Nat.reduceBEq, Nat.reduceBNe, Nat.reduceLeDiff, Nat.reduceLT, reduceCtorEq, decide_true, decide_false, List.length_map, Int.reduceLT, Int.reduceLE, Int.reduceBEq, Int.reduceAdd, Int.reduceSub, Int.reduceToNat, hw, right_ref r hl]
  repeat' (first | (refine WGuard_splitN (fun hc => ?_) (fun hc => ?_) <;> (try simp only [go_sem, regs0, ↓reduceIte, Nat.reduceAdd, Nat.reduceEqDiff, Nat.reduceBEq, Nat.reduceBNe, Nat.reduceLeDiff, Nat.reduceLT, reduceCtorEq, decide_true, decide_false, List.length_map, Int.reduceLT, Int.reduceLE, Int.reduceBEq, Int.reduceAdd, Int.reduceSub, Int.reduceToNat, hc, hw, right_ref r hl])) | (refine WBr_splitN (fun hc => ?_) (fun hc => ?_) <;> (try simp only [go_sem, regs0, ↓reduceIte, Nat.reduceAdd, Nat.reduceEqDiff, Nat.reduceBEq, Nat.reduceBNe, Nat.reduceLeDiff, Nat.reduceLT, reduceCtorEq, decide_true, decide_false, List.length_map, Int.reduceLT, Int.reduceLE, Int.reduceBEq, Int.reduceAdd, Int.reduceSub, Int.reduceToNat, hc, hw, right_ref r hl])) | (refine WGuard_split (fun hc => ?_) (fun hc => ?_) <;> (try simp only [go_sem, regs0, ↓reduceIte, Nat.reduceAdd, Nat.reduceEqDiff, Nat.reduceBEq, Nat.reduceBNe, Nat.reduceLeDiff, Nat.reduceLT, reduceCtorEq, decide_true, decide_false, List.length_map, Int.reduceLT, Int.reduceLE, Int.reduceBEq, Int.reduceAdd, Int.reduceSub, Int.reduceToNat, hc, hw, right_ref r hl])) | (refine WBr_split (fun hc => ?_) (fun hc => ?_) <;> (try simp only [go_sem, regs0, ↓reduceIte, Nat.reduceAdd, Nat.reduceEqDiff, Nat.reduceBEq, Nat.reduceBNe, Nat.reduceLeDiff, Nat.reduceLT, reduceCtorEq, decide_true, decide_false, List.length_map, Int.reduceLT, Int.reduceLE, Int.reduceBEq, Int.reduceAdd, Int.reduceSub, Int.reduceToNat, hc, hw, right_ref r hl])))
  all_goals (try simp_all [Reads_d, endedP]); all_goals (try omega); all_goals (try (rw [Bool.eq_iff_iff]; simp_all)); all_goals (try omega)
def endP (r : Run) : Event × Bool × Int :=
  if endedP r = true then ((let e := { r.event with dispatching := false, stop := false, stopNow := false, passive := false, phase := 0, current := 0 }; if r.clears = true then { e with target := 0, related := 0 } else e), !r.event.canceled, 0) else (.zero, false, 15)
theorem end_prg (r : Run) (hl : r.path.l.length ≤ 2 ^ 31) : pc prog 38 [eRun r] = some (.tuple [eEvent (endP r).1, .bool (endP r).2.1, .int .i64 (endP r).2.2]) := by
  refine pc_of (fn := c38) rfl rfl ?_
  delta c38
  simp only [go_sem, regs0, ↓reduceIte, Nat.reduceAdd, Nat.reduceEqDiff, Nat.reduceBEq, Nat.reduceBNe, Nat.reduceLeDiff, Nat.reduceLT, reduceCtorEq, decide_true, decide_false, List.length_map, Int.reduceLT, Int.reduceLE, Int.reduceBEq, Int.reduceAdd, Int.reduceSub, Int.reduceToNat, ended_prg r hl]
  repeat' (first | (refine WGuard_splitN (fun hc => ?_) (fun hc => ?_) <;> (try simp only [go_sem, regs0, ↓reduceIte, Nat.reduceAdd, Nat.reduceEqDiff, Nat.reduceBEq, Nat.reduceBNe, Nat.reduceLeDiff, Nat.reduceLT, reduceCtorEq, decide_true, decide_false, List.length_map, Int.reduceLT, Int.reduceLE, Int.reduceBEq, Int.reduceAdd, Int.reduceSub, Int.reduceToNat, hc, ended_prg r hl])) | (refine WBr_splitN (fun hc => ?_) (fun hc => ?_) <;> (try simp only [go_sem, regs0, ↓reduceIte, Nat.reduceAdd, Nat.reduceEqDiff, Nat.reduceBEq, Nat.reduceBNe, Nat.reduceLeDiff, Nat.reduceLT, reduceCtorEq, decide_true, decide_false, List.length_map, Int.reduceLT, Int.reduceLE, Int.reduceBEq, Int.reduceAdd, Int.reduceSub, Int.reduceToNat, hc, ended_prg r hl])) | (refine WGuard_split (fun hc => ?_) (fun hc => ?_) <;> (try simp only [go_sem, regs0, ↓reduceIte, Nat.reduceAdd, Nat.reduceEqDiff, Nat.reduceBEq, Nat.reduceBNe, Nat.reduceLeDiff, Nat.reduceLT, reduceCtorEq, decide_true, decide_false, List.length_map, Int.reduceLT, Int.reduceLE, Int.reduceBEq, Int.reduceAdd, Int.reduceSub, Int.reduceToNat, hc, ended_prg r hl])) | (refine WBr_split (fun hc => ?_) (fun hc => ?_) <;> (try simp only [go_sem, regs0, ↓reduceIte, Nat.reduceAdd, Nat.reduceEqDiff, Nat.reduceBEq, Nat.reduceBNe, Nat.reduceLeDiff, Nat.reduceLT, reduceCtorEq, decide_true, decide_false, List.length_map, Int.reduceLT, Int.reduceLE, Int.reduceBEq, Int.reduceAdd, Int.reduceSub, Int.reduceToNat, hc, ended_prg r hl])))
  · have h : endP r = (.zero, false, 15) := by rw [endP, if_neg (by simp [hc])]
    rw [h]; rfl
  · rename_i h1
    rw [endP, if_pos h1]
    simp only [hc, if_true]
    try rfl
  · rename_i h1
    rw [endP, if_pos h1]
    simp only [hc, Bool.false_eq_true, if_false]
    try rfl
theorem end_ref (r : Run) (hl : r.path.l.length ≤ 2 ^ 31) : pc prog 39 [eRun r] = some (.tuple [eEvent (endP r).1, .bool (endP r).2.1, .int .i64 (endP r).2.2]) := by
  refine pc_of (fn := c39) rfl rfl ?_
  delta c39
  simp only [go_sem, regs0, ↓reduceIte, Nat.reduceAdd, Nat.reduceEqDiff, Nat.reduceBEq, Nat.reduceBNe, Nat.reduceLeDiff, Nat.reduceLT, reduceCtorEq, decide_true, decide_false, List.length_map, Int.reduceLT, Int.reduceLE, Int.reduceBEq, Int.reduceAdd, Int.reduceSub, Int.reduceToNat, ended_ref r hl]
  repeat' (first | (refine WGuard_splitN (fun hc => ?_) (fun hc => ?_) <;> (try simp only [go_sem, regs0, ↓reduceIte, Nat.reduceAdd, Nat.reduceEqDiff, Nat.reduceBEq, Nat.reduceBNe, Nat.reduceLeDiff, Nat.reduceLT, reduceCtorEq, decide_true, decide_false, List.length_map, Int.reduceLT, Int.reduceLE, Int.reduceBEq, Int.reduceAdd, Int.reduceSub, Int.reduceToNat, hc, ended_ref r hl])) | (refine WBr_splitN (fun hc => ?_) (fun hc => ?_) <;> (try simp only [go_sem, regs0, ↓reduceIte, Nat.reduceAdd, Nat.reduceEqDiff, Nat.reduceBEq, Nat.reduceBNe, Nat.reduceLeDiff, Nat.reduceLT, reduceCtorEq, decide_true, decide_false, List.length_map, Int.reduceLT, Int.reduceLE, Int.reduceBEq, Int.reduceAdd, Int.reduceSub, Int.reduceToNat, hc, ended_ref r hl])) | (refine WGuard_split (fun hc => ?_) (fun hc => ?_) <;> (try simp only [go_sem, regs0, ↓reduceIte, Nat.reduceAdd, Nat.reduceEqDiff, Nat.reduceBEq, Nat.reduceBNe, Nat.reduceLeDiff, Nat.reduceLT, reduceCtorEq, decide_true, decide_false, List.length_map, Int.reduceLT, Int.reduceLE, Int.reduceBEq, Int.reduceAdd, Int.reduceSub, Int.reduceToNat, hc, ended_ref r hl])) | (refine WBr_split (fun hc => ?_) (fun hc => ?_) <;> (try simp only [go_sem, regs0, ↓reduceIte, Nat.reduceAdd, Nat.reduceEqDiff, Nat.reduceBEq, Nat.reduceBNe, Nat.reduceLeDiff, Nat.reduceLT, reduceCtorEq, decide_true, decide_false, List.length_map, Int.reduceLT, Int.reduceLE, Int.reduceBEq, Int.reduceAdd, Int.reduceSub, Int.reduceToNat, hc, ended_ref r hl])))
  · have h : endP r = (.zero, false, 15) := by rw [endP, if_neg (by simp [hc])]
    rw [h]; rfl
  · rename_i h1
    rw [endP, if_pos h1]
    simp only [hc, if_true]
    try rfl
  · rename_i h1
    rw [endP, if_pos h1]
    simp only [hc, Bool.false_eq_true, if_false]
    try rfl
def actE (e : Event) (does : Int) : Event := { e with stop := e.stop || does == 1 || does == 2, stopNow := e.stopNow || does == 2, canceled := e.canceled || (does == 3 && e.cancelable && !e.passive) }
theorem actE_none (e : Event) (h : e.cancelable = false ∨ e.passive = true) : actE e 3 = e := by
  rcases e with ⟨a1, a2, a3, a4, a5, a6, a7, a8, a9, a10, a11, a12, a13⟩
  rcases h with h | h <;> simp_all [actE]
def actP (n m : Bool) (r : Run) (does : Int) : Run × Int :=
  if ¬ rightP r = true then (.zero, 15) else if 4 ≤ does then (.zero, 23) else ({ r with event := actE r.event does, path := ⟨n, r.path.l⟩, due := ⟨m, r.due.l⟩ }, 0)
theorem act_prg (r : Run) (does : Int) (h1 : r.path.n = true → r.path.l = []) (h2 : r.due.n = true → r.due.l = []) (hl : r.path.l.length ≤ 2 ^ 31) (hd : r.due.l.length ≤ 2 ^ 31) : pc prog 48 [eRun r, .int .u8 does] = some (.tuple [eRun (actP r.path.n r.due.n r does).1, .int .i64 (actP r.path.n r.due.n r does).2]) := by
  refine pc_of (fn := c48) rfl rfl ?_
  delta c48
  simp only [go_sem, regs0, ↓reduceIte, Nat.reduceAdd, Nat.reduceEqDiff, Nat.reduceBEq, Nat.reduceBNe, Nat.reduceLeDiff, Nat.reduceLT, reduceCtorEq, decide_true, decide_false, List.length_map, Int.reduceLT, Int.reduceLE, Int.reduceBEq, Int.reduceAdd, Int.reduceSub, Int.reduceToNat, right_prg r hl, own_prg r h1 h2 hl hd]
  repeat' (first | (refine WGuard_splitN (fun hc => ?_) (fun hc => ?_) <;> (try simp only [go_sem, regs0, ↓reduceIte, Nat.reduceAdd, Nat.reduceEqDiff, Nat.reduceBEq, Nat.reduceBNe, Nat.reduceLeDiff, Nat.reduceLT, reduceCtorEq, decide_true, decide_false, List.length_map, Int.reduceLT, Int.reduceLE, Int.reduceBEq, Int.reduceAdd, Int.reduceSub, Int.reduceToNat, hc, right_prg r hl, own_prg r h1 h2 hl hd])) | (refine WBr_splitN (fun hc => ?_) (fun hc => ?_) <;> (try simp only [go_sem, regs0, ↓reduceIte, Nat.reduceAdd, Nat.reduceEqDiff, Nat.reduceBEq, Nat.reduceBNe, Nat.reduceLeDiff, Nat.reduceLT, reduceCtorEq, decide_true, decide_false, List.length_map, Int.reduceLT, Int.reduceLE, Int.reduceBEq, Int.reduceAdd, Int.reduceSub, Int.reduceToNat, hc, right_prg r hl, own_prg r h1 h2 hl hd])) | (refine WGuard_split (fun hc => ?_) (fun hc => ?_) <;> (try simp only [go_sem, regs0, ↓reduceIte, Nat.reduceAdd, Nat.reduceEqDiff, Nat.reduceBEq, Nat.reduceBNe, Nat.reduceLeDiff, Nat.reduceLT, reduceCtorEq, decide_true, decide_false, List.length_map, Int.reduceLT, Int.reduceLE, Int.reduceBEq, Int.reduceAdd, Int.reduceSub, Int.reduceToNat, hc, right_prg r hl, own_prg r h1 h2 hl hd])) | (refine WBr_split (fun hc => ?_) (fun hc => ?_) <;> (try simp only [go_sem, regs0, ↓reduceIte, Nat.reduceAdd, Nat.reduceEqDiff, Nat.reduceBEq, Nat.reduceBNe, Nat.reduceLeDiff, Nat.reduceLT, reduceCtorEq, decide_true, decide_false, List.length_map, Int.reduceLT, Int.reduceLE, Int.reduceBEq, Int.reduceAdd, Int.reduceSub, Int.reduceToNat, hc, right_prg r hl, own_prg r h1 h2 hl hd])))
  · rw [actP, if_pos (by simp [hc])]; rfl
  · rename_i h
    rw [actP, if_neg (by simp [h]), if_pos (by simpa using hc)]; rfl
  all_goals
    rw [actP, if_neg (by simp_all), if_neg (by simp_all)]
    have he : ∀ e, e = actE r.event does → D.tuple [eRun { r with event := e }, .int .i64 0] = D.tuple [eRun { r with event := actE r.event does }, .int .i64 0] := fun e h => by rw [h]
    refine he _ ?_
    simp_all [actE]
theorem act_ref (r : Run) (does : Int) (h0 : 0 ≤ does) (hl : r.path.l.length ≤ 2 ^ 31) (hd : r.due.l.length ≤ 2 ^ 31) : pc prog 49 [eRun r, .int .u8 does] = some (.tuple [eRun (actP false false r does).1, .int .i64 (actP false false r does).2]) := by
  refine pc_of (fn := c49) rfl rfl ?_
  delta c49
  simp only [go_sem, regs0, ↓reduceIte, Nat.reduceAdd, Nat.reduceEqDiff, Nat.reduceBEq, Nat.reduceBNe, Nat.reduceLeDiff, Nat.reduceLT, reduceCtorEq, decide_true, decide_false, List.length_map, Int.reduceLT, Int.reduceLE, Int.reduceBEq, Int.reduceAdd, Int.reduceSub, Int.reduceToNat, right_ref r hl, copy_ref r hl hd]
  repeat' (first | (refine WGuard_splitN (fun hc => ?_) (fun hc => ?_) <;> (try simp only [go_sem, regs0, ↓reduceIte, Nat.reduceAdd, Nat.reduceEqDiff, Nat.reduceBEq, Nat.reduceBNe, Nat.reduceLeDiff, Nat.reduceLT, reduceCtorEq, decide_true, decide_false, List.length_map, Int.reduceLT, Int.reduceLE, Int.reduceBEq, Int.reduceAdd, Int.reduceSub, Int.reduceToNat, hc, right_ref r hl, copy_ref r hl hd])) | (refine WBr_splitN (fun hc => ?_) (fun hc => ?_) <;> (try simp only [go_sem, regs0, ↓reduceIte, Nat.reduceAdd, Nat.reduceEqDiff, Nat.reduceBEq, Nat.reduceBNe, Nat.reduceLeDiff, Nat.reduceLT, reduceCtorEq, decide_true, decide_false, List.length_map, Int.reduceLT, Int.reduceLE, Int.reduceBEq, Int.reduceAdd, Int.reduceSub, Int.reduceToNat, hc, right_ref r hl, copy_ref r hl hd])) | (refine WGuard_split (fun hc => ?_) (fun hc => ?_) <;> (try simp only [go_sem, regs0, ↓reduceIte, Nat.reduceAdd, Nat.reduceEqDiff, Nat.reduceBEq, Nat.reduceBNe, Nat.reduceLeDiff, Nat.reduceLT, reduceCtorEq, decide_true, decide_false, List.length_map, Int.reduceLT, Int.reduceLE, Int.reduceBEq, Int.reduceAdd, Int.reduceSub, Int.reduceToNat, hc, right_ref r hl, copy_ref r hl hd])) | (refine WBr_split (fun hc => ?_) (fun hc => ?_) <;> (try simp only [go_sem, regs0, ↓reduceIte, Nat.reduceAdd, Nat.reduceEqDiff, Nat.reduceBEq, Nat.reduceBNe, Nat.reduceLeDiff, Nat.reduceLT, reduceCtorEq, decide_true, decide_false, List.length_map, Int.reduceLT, Int.reduceLE, Int.reduceBEq, Int.reduceAdd, Int.reduceSub, Int.reduceToNat, hc, right_ref r hl, copy_ref r hl hd])))
  · rw [actP, if_pos (by simp [hc])]; rfl
  all_goals try
    (rw [actP, if_neg (by simp_all), if_neg (by simp_all <;> omega)]
     have he : ∀ e, e = actE r.event does → D.tuple [eRun { r with event := e, path := ⟨false, r.path.l⟩, due := ⟨false, r.due.l⟩ }, .int .i64 0] = D.tuple [eRun { r with event := actE r.event does, path := ⟨false, r.path.l⟩, due := ⟨false, r.due.l⟩ }, .int .i64 0] := fun e h => by rw [h]
     refine he _ ?_
     simp_all [actE]
     done)
  · rename_i h3 _
    have h3 : does = 3 := by simpa using h3
    subst h3
    have hr : rightP r = true := by assumption
    rw [actP, if_neg (by simp [hr]), if_neg (by decide), actE_none _ (.inr (by assumption))]
  · rename_i h3
    have h3 : does = 3 := by simpa using h3
    subst h3
    have hr : rightP r = true := by assumption
    rw [actP, if_neg (by simp [hr]), if_neg (by decide), actE_none _ (.inl (by assumption))]
  · have h3 : ¬ (does = 0 ∨ does = 1 ∨ does = 2 ∨ does = 3) := by simp_all
    rw [actP, if_neg (by simp_all), if_pos (by omega)]; rfl
end Go.Proofs.Ytnijbejobbajfaa.E
