/- Dispatch: whether two runs are the same; begins; the laws DispatchBegins and DispatchActs. Its conditions: none. -/
import Derived.Test.YtnijbejobbajfaaDSpDisp2
set_option linter.unusedSimpArgs false
set_option linter.unusedVariables false
set_option linter.unusedSectionVars false
set_option linter.unnecessarySimpa false
namespace Go.Proofs.Ytnijbejobbajfaa.D
open Go.AI
theorem path_same (n m : Bool) (l : List Step) (hl : l.length ≤ 2 ^ 47) : pc prog 43 [.list n (l.map eStep), .list m (l.map eStep)] = some (.bool true) := by
  refine pc_of (fn := c43) rfl rfl ?_
  delta c43
  simp only [go_sem, regs0, ↓reduceIte, Nat.reduceAdd, Nat.reduceEqDiff, Nat.reduceBEq, Nat.reduceBNe, Nat.reduceLeDiff, Nat.reduceLT, reduceCtorEq, decide_true, decide_false, List.length_map, Int.reduceLT, Int.reduceLE, Int.reduceBEq, Int.reduceAdd, Int.reduceSub, Int.reduceToNat, beq_self_eq_true, Bool.not_true]
  refine Wp.rounds l.length (fun s0 i s => s.r 5 = .d (.int .i64 i)) ?_ ?_ ?_
  · simp [go_sem, regs0, ↓reduceIte, Nat.reduceAdd, Nat.reduceEqDiff, Nat.reduceBEq, Nat.reduceBNe, Nat.reduceLeDiff, Nat.reduceLT, reduceCtorEq, decide_true, decide_false, List.length_map, Int.reduceLT, Int.reduceLE, Int.reduceBEq, Int.reduceAdd, Int.reduceSub, Int.reduceToNat]
  · rintro i s hi hK h5
    have r0 := hK.reg 0 rfl; have r1 := hK.reg 1 rfl; have hn := hK.next; clear hK; simp only [go_sem, regs0, ↓reduceIte, Nat.reduceAdd, Nat.reduceEqDiff, Nat.reduceBEq, Nat.reduceBNe, Nat.reduceLeDiff, Nat.reduceLT, reduceCtorEq, decide_true, decide_false, List.length_map, Int.reduceLT, Int.reduceLE, Int.reduceBEq, Int.reduceAdd, Int.reduceSub, Int.reduceToNat] at hn r0 r1
    have hw := wrap_nat (show i < 2 ^ 62 by omega)
    delta c43B0
    simp only [go_sem, regs0, ↓reduceIte, Nat.reduceAdd, Nat.reduceEqDiff, Nat.reduceBEq, Nat.reduceBNe, Nat.reduceLeDiff, Nat.reduceLT, reduceCtorEq, decide_true, decide_false, List.length_map, Int.reduceLT, Int.reduceLE, Int.reduceBEq, Int.reduceAdd, Int.reduceSub, Int.reduceToNat, r0, r1, h5, nat_lt, hi, nat_pos, Int.toNat_natCast, map_get hi, Bool.not_true, hw]
  · rintro s hK h5
    have r0 := hK.reg 0 rfl; have hn := hK.next; clear hK; simp only [go_sem, regs0, ↓reduceIte, Nat.reduceAdd, Nat.reduceEqDiff, Nat.reduceBEq, Nat.reduceBNe, Nat.reduceLeDiff, Nat.reduceLT, reduceCtorEq, decide_true, decide_false, List.length_map, Int.reduceLT, Int.reduceLE, Int.reduceBEq, Int.reduceAdd, Int.reduceSub, Int.reduceToNat] at hn r0
    delta c43B0
    simp only [go_sem, regs0, ↓reduceIte, Nat.reduceAdd, Nat.reduceEqDiff, Nat.reduceBEq, Nat.reduceBNe, Nat.reduceLeDiff, Nat.reduceLT, reduceCtorEq, decide_true, decide_false, List.length_map, Int.reduceLT, Int.reduceLE, Int.reduceBEq, Int.reduceAdd, Int.reduceSub, Int.reduceToNat, r0, h5, nat_lt, Nat.lt_irrefl]
theorem run_same (e : Event) (n m : Bool) (p : List Step) (t : Int) (k j : Bool) (d : List Int) (c : Bool) (hp : p.length ≤ 2 ^ 47) (hd : d.length ≤ 2 ^ 47) : pc prog 40 [eRun ⟨e, ⟨n, p⟩, t, ⟨k, d⟩, c⟩, eRun ⟨e, ⟨m, p⟩, t, ⟨j, d⟩, c⟩] = some (.bool true) := by
  refine pc_of (fn := c40) rfl rfl ?_
  delta c40
  simp only [go_sem, regs0, ↓reduceIte, Nat.reduceAdd, Nat.reduceEqDiff, Nat.reduceBEq, Nat.reduceBNe, Nat.reduceLeDiff, Nat.reduceLT, reduceCtorEq, decide_true, decide_false, List.length_map, Int.reduceLT, Int.reduceLE, Int.reduceBEq, Int.reduceAdd, Int.reduceSub, Int.reduceToNat, path_same _ _ _ hp, beq_self_eq_true, Bool.not_true]
  repeat' (first | (refine WGuard_splitN (fun hc => ?_) (fun hc => ?_) <;> (try simp only [go_sem, regs0, ↓reduceIte, Nat.reduceAdd, Nat.reduceEqDiff, Nat.reduceBEq, Nat.reduceBNe, Nat.reduceLeDiff, Nat.reduceLT, reduceCtorEq, decide_true, decide_false, List.length_map, Int.reduceLT, Int.reduceLE, Int.reduceBEq, Int.reduceAdd, Int.reduceSub, Int.reduceToNat, hc, path_same _ _ _ hp, beq_self_eq_true, Bool.not_true])) | (refine WBr_splitN (fun hc => ?_) (fun hc => ?_) <;> (try simp only [go_sem, regs0, ↓reduceIte, Nat.reduceAdd, Nat.reduceEqDiff, Nat.reduceBEq, Nat.reduceBNe, Nat.reduceLeDiff, Nat.reduceLT, reduceCtorEq, decide_true, decide_false, List.length_map, Int.reduceLT, Int.reduceLE, Int.reduceBEq, Int.reduceAdd, Int.reduceSub, Int.reduceToNat, hc, path_same _ _ _ hp, beq_self_eq_true, Bool.not_true])) | (refine WGuard_split (fun hc => ?_) (fun hc => ?_) <;> (try simp only [go_sem, regs0, ↓reduceIte, Nat.reduceAdd, Nat.reduceEqDiff, Nat.reduceBEq, Nat.reduceBNe, Nat.reduceLeDiff, Nat.reduceLT, reduceCtorEq, decide_true, decide_false, List.length_map, Int.reduceLT, Int.reduceLE, Int.reduceBEq, Int.reduceAdd, Int.reduceSub, Int.reduceToNat, hc, path_same _ _ _ hp, beq_self_eq_true, Bool.not_true])) | (refine WBr_split (fun hc => ?_) (fun hc => ?_) <;> (try simp only [go_sem, regs0, ↓reduceIte, Nat.reduceAdd, Nat.reduceEqDiff, Nat.reduceBEq, Nat.reduceBNe, Nat.reduceLeDiff, Nat.reduceLT, reduceCtorEq, decide_true, decide_false, List.length_map, Int.reduceLT, Int.reduceLE, Int.reduceBEq, Int.reduceAdd, Int.reduceSub, Int.reduceToNat, hc, path_same _ _ _ hp, beq_self_eq_true, Bool.not_true])))
  refine Wp.rounds d.length (fun s0 i s => s.r 5 = .d (.int .i64 i) ∧ s.h.get 0 = s0.h.get 0 ∧ s.h.get 1 = s0.h.get 1) ?_ ?_ ?_
  · simp [go_sem, regs0, ↓reduceIte, Nat.reduceAdd, Nat.reduceEqDiff, Nat.reduceBEq, Nat.reduceBNe, Nat.reduceLeDiff, Nat.reduceLT, reduceCtorEq, decide_true, decide_false, List.length_map, Int.reduceLT, Int.reduceLE, Int.reduceBEq, Int.reduceAdd, Int.reduceSub, Int.reduceToNat]
  · rintro i s hi hK ⟨h5, h0, h1⟩
    have r2 := hK.reg 2 rfl; have r3 := hK.reg 3 rfl; have hn := hK.next; clear hK; simp only [go_sem, regs0, ↓reduceIte, Nat.reduceAdd, Nat.reduceEqDiff, Nat.reduceBEq, Nat.reduceBNe, Nat.reduceLeDiff, Nat.reduceLT, reduceCtorEq, decide_true, decide_false, List.length_map, Int.reduceLT, Int.reduceLE, Int.reduceBEq, Int.reduceAdd, Int.reduceSub, Int.reduceToNat] at hn r2 r3 h0 h1
    have hw := wrap_nat (show i < 2 ^ 62 by omega)
    delta c40B0
    simp only [go_sem, regs0, ↓reduceIte, Nat.reduceAdd, Nat.reduceEqDiff, Nat.reduceBEq, Nat.reduceBNe, Nat.reduceLeDiff, Nat.reduceLT, reduceCtorEq, decide_true, decide_false, List.length_map, Int.reduceLT, Int.reduceLE, Int.reduceBEq, Int.reduceAdd, Int.reduceSub, Int.reduceToNat, r2, r3, h5, h0, h1, nat_lt, hi, nat_pos, Int.toNat_natCast, map_get hi, beq_self_eq_true, Bool.not_true, hw]
  · rintro s hK ⟨h5, h0, h1⟩
    have r2 := hK.reg 2 rfl; have hn := hK.next; clear hK; simp only [go_sem, regs0, ↓reduceIte, Nat.reduceAdd, Nat.reduceEqDiff, Nat.reduceBEq, Nat.reduceBNe, Nat.reduceLeDiff, Nat.reduceLT, reduceCtorEq, decide_true, decide_false, List.length_map, Int.reduceLT, Int.reduceLE, Int.reduceBEq, Int.reduceAdd, Int.reduceSub, Int.reduceToNat] at hn r2 h0 h1
    delta c40B0
    simp only [go_sem, regs0, ↓reduceIte, Nat.reduceAdd, Nat.reduceEqDiff, Nat.reduceBEq, Nat.reduceBNe, Nat.reduceLeDiff, Nat.reduceLT, reduceCtorEq, decide_true, decide_false, List.length_map, Int.reduceLT, Int.reduceLE, Int.reduceBEq, Int.reduceAdd, Int.reduceSub, Int.reduceToNat, r2, h5, h0, h1, nat_lt, Nat.lt_irrefl]
theorem begins_true : pc prog 44 [] = some (.bool true) := pc_run 60 (by kernel_rfl)
theorem run_eq (a b : Run) (h1 : a.event = b.event) (h2 : a.path.l = b.path.l) (h3 : a.turn = b.turn) (h4 : a.due.l = b.due.l) (h5 : a.clears = b.clears) (hp : b.path.l.length ≤ 2 ^ 47) (hd : b.due.l.length ≤ 2 ^ 47) : pc prog 40 [eRun a, eRun b] = some (.bool true) := by
  obtain ⟨e, ⟨n, p⟩, t, ⟨k, d⟩, c⟩ := a
  obtain ⟨e', ⟨n', p'⟩, t', ⟨k', d'⟩, c'⟩ := b
  obtain rfl : e = e' := h1
  obtain rfl : p = p' := h2
  obtain rfl : t = t' := h3
  obtain rfl : d = d' := h4
  obtain rfl : c = c' := h5
  exact run_same e n n' p t k k' d c hp hd
theorem act_flags (n m n' m' : Bool) (r : Run) (does : Int) : (actP n m r does).1.event = (actP n' m' r does).1.event ∧ (actP n m r does).1.path.l = (actP n' m' r does).1.path.l ∧ (actP n m r does).1.turn = (actP n' m' r does).1.turn ∧ (actP n m r does).1.due.l = (actP n' m' r does).1.due.l ∧ (actP n m r does).1.clears = (actP n' m' r does).1.clears ∧ (actP n m r does).2 = (actP n' m' r does).2 := by
  unfold actP
  split
  · simp
  split <;> simp
theorem act_len (n m : Bool) (r : Run) (does : Int) : (actP n m r does).1.path.l.length ≤ r.path.l.length ∧ (actP n m r does).1.due.l.length ≤ r.due.l.length := by
  unfold actP
  split
  · simp [Run.zero]
  split <;> simp [Run.zero]
theorem law_acts (r : Run) (does : Int) (h0 : 0 ≤ does) (h1 : r.path.n = true → r.path.l = []) (h2 : r.due.n = true → r.due.l = []) (hl : r.path.l.length ≤ 2 ^ 31) (hd : r.due.l.length ≤ 2 ^ 31) : pc prog 10 [eRun r, .int .u8 does] = some (.bool true) := by
  obtain ⟨f1, f2, f3, f4, f5, f6⟩ := act_flags r.path.n r.due.n false false r does
  have hal := act_len false false r does
  have s1 := run_eq _ _ f1 f2 f3 f4 f5 (by omega) (by omega)
  refine pc_of (fn := c10) rfl rfl ?_
  delta c10
  simp only [go_sem, regs0, ↓reduceIte, Nat.reduceAdd, Nat.reduceEqDiff, Nat.reduceBEq, Nat.reduceBNe, Nat.reduceLeDiff, Nat.reduceLT, reduceCtorEq, decide_true, decide_false, List.length_map, Int.reduceLT, Int.reduceLE, Int.reduceBEq, Int.reduceAdd, Int.reduceSub, Int.reduceToNat, act_prg r does h1 h2 hl hd, act_ref r does h0 hl hd, s1, f6, begins_true, beq_self_eq_true]
  repeat' (first | (refine WGuard_splitN (fun hc => ?_) (fun hc => ?_) <;> (try simp only [go_sem, regs0, ↓reduceIte, Nat.reduceAdd, Nat.reduceEqDiff, Nat.reduceBEq, Nat.reduceBNe, Nat.reduceLeDiff, Nat.reduceLT, reduceCtorEq, decide_true, decide_false, List.length_map, Int.reduceLT, Int.reduceLE, Int.reduceBEq, Int.reduceAdd, Int.reduceSub, Int.reduceToNat, hc, act_prg r does h1 h2 hl hd, act_ref r does h0 hl hd, s1, f6, begins_true, beq_self_eq_true])) | (refine WBr_splitN (fun hc => ?_) (fun hc => ?_) <;> (try simp only [go_sem, regs0, ↓reduceIte, Nat.reduceAdd, Nat.reduceEqDiff, Nat.reduceBEq, Nat.reduceBNe, Nat.reduceLeDiff, Nat.reduceLT, reduceCtorEq, decide_true, decide_false, List.length_map, Int.reduceLT, Int.reduceLE, Int.reduceBEq, Int.reduceAdd, Int.reduceSub, Int.reduceToNat, hc, act_prg r does h1 h2 hl hd, act_ref r does h0 hl hd, s1, f6, begins_true, beq_self_eq_true])) | (refine WGuard_split (fun hc => ?_) (fun hc => ?_) <;> (try simp only [go_sem, regs0, ↓reduceIte, Nat.reduceAdd, Nat.reduceEqDiff, Nat.reduceBEq, Nat.reduceBNe, Nat.reduceLeDiff, Nat.reduceLT, reduceCtorEq, decide_true, decide_false, List.length_map, Int.reduceLT, Int.reduceLE, Int.reduceBEq, Int.reduceAdd, Int.reduceSub, Int.reduceToNat, hc, act_prg r does h1 h2 hl hd, act_ref r does h0 hl hd, s1, f6, begins_true, beq_self_eq_true])) | (refine WBr_split (fun hc => ?_) (fun hc => ?_) <;> (try simp only [go_sem, regs0, ↓reduceIte, Nat.reduceAdd, Nat.reduceEqDiff, Nat.reduceBEq, Nat.reduceBNe, Nat.reduceLeDiff, Nat.reduceLT, reduceCtorEq, decide_true, decide_false, List.length_map, Int.reduceLT, Int.reduceLE, Int.reduceBEq, Int.reduceAdd, Int.reduceSub, Int.reduceToNat, hc, act_prg r does h1 h2 hl hd, act_ref r does h0 hl hd, s1, f6, begins_true, beq_self_eq_true])))
theorem run_lens {r : Run} {rest : List D} : r.path.l.length ≤ D.bulkAll (eRun r :: rest) ∧ r.due.l.length ≤ D.bulkAll (eRun r :: rest) := by
  have h1 := len_bulkAll (r.path.l.map eStep)
  have h2 := len_bulkAll (r.due.l.map (D.int .i64))
  simp only [List.length_map] at h1 h2
  simp only [eRun, D.bulkAll, D.bulk]
  omega
theorem lawDispatchActs (r : Run) (does : Int) (o : Run.ok r) (od : IntKind.u8.min ≤ does ∧ does ≤ IntKind.u8.max) (hb : D.bulkAll [eRun r, .int .u8 does] ≤ 1048576) : pc prog 10 [eRun r, .int .u8 does] = some (.bool true) := by
  have hl := run_lens (r := r) (rest := [.int .u8 does])
  exact law_acts r does od.1 o.2.1.1 o.2.2.2.1.1 (by omega) (by omega)
theorem begin_flags (n m : Bool) (path : List Step) (e : Event) (clears : Bool) : (beginP n path e clears).1.event = (beginP m path e clears).1.event ∧ (beginP n path e clears).1.path.l = (beginP m path e clears).1.path.l ∧ (beginP n path e clears).1.turn = (beginP m path e clears).1.turn ∧ (beginP n path e clears).1.due.l = (beginP m path e clears).1.due.l ∧ (beginP n path e clears).1.clears = (beginP m path e clears).1.clears ∧ (beginP n path e clears).2 = (beginP m path e clears).2 := by
  unfold beginP
  split
  · simp
  split
  · simp
  split <;> simp
theorem begin_len (n : Bool) (path : List Step) (e : Event) (clears : Bool) : (beginP n path e clears).1.path.l.length ≤ path.length ∧ (beginP n path e clears).1.due.l.length = 0 := by
  unfold beginP
  split
  · simp [Run.zero]
  split
  · simp [Run.zero]
  split <;> simp [Run.zero]
theorem law_begins (p : Sl Step) (e : Event) (clears : Bool) (r : Run) (hp : p.l.length ≤ 2 ^ 31) (hl : r.path.l.length ≤ 2 ^ 31) : pc prog 8 [eSl eStep p, eEvent e, .bool clears, eRun r] = some (.bool true) := by
  obtain ⟨f1, f2, f3, f4, f5, f6⟩ := begin_flags false false p.l e clears
  have hal := begin_len false p.l e clears
  have s1 := run_eq _ _ f1 f2 f3 f4 f5 (by omega) (by omega)
  have s2 := path_same false p.n p.l (by omega)
  have b1 := begin_prg false p.l e clears (by simp) hp
  refine pc_of (fn := c8) rfl rfl ?_
  delta c8
  have hlm : ((p.l.map eStep).map V.d).length = p.l.length := by simp
  have hmm : (p.l.map eStep).map V.d = p.l.map fun y => V.d (eStep y) := by simp
  simp only [go_sem, regs0, ↓reduceIte, Nat.reduceAdd, Nat.reduceEqDiff, Nat.reduceBEq, Nat.reduceBNe, Nat.reduceLeDiff, Nat.reduceLT, reduceCtorEq, decide_true, decide_false, List.length_map, Int.reduceLT, Int.reduceLE, Int.reduceBEq, Int.reduceAdd, Int.reduceSub, Int.reduceToNat, appV_eq]
  refine WVal_copy ?_ (eStep_sizedm _) (by rw [hlm]; exact room_le (n := p.l.length) (bytes := 40) (by omega) (by decide)) ?_
  · simp only [go_sem, regs0, ↓reduceIte, Nat.reduceAdd, Nat.reduceEqDiff, Nat.reduceBEq, Nat.reduceBNe, Nat.reduceLeDiff, Nat.reduceLT, reduceCtorEq, decide_true, decide_false, List.length_map, Int.reduceLT, Int.reduceLE, Int.reduceBEq, Int.reduceAdd, Int.reduceSub, Int.reduceToNat]
  rintro c H gc hn hcc hk
  have hcn : ∀ j, j < 2 → (c = j) = False := fun j hj => by simp; omega
  have hcm : ∀ j, 6 ≤ j → (c = j) = False := fun j hj => by simp; omega
  have hnc : ∀ j, j < 2 → (j = c) = False := fun j hj => by simp; omega
  have hmc : ∀ j, 6 ≤ j → (j = c) = False := fun j hj => by simp; omega
  have g1 := hk 1 (by decide) (by decide)
  have g0 := hk 0 (by decide) (by decide)
  rw [hmm] at gc
  simp only [go_sem, regs0, ↓reduceIte, Nat.reduceAdd, Nat.reduceEqDiff, Nat.reduceBEq, Nat.reduceBNe, Nat.reduceLeDiff, Nat.reduceLT, reduceCtorEq, decide_true, decide_false, List.length_map, Int.reduceLT, Int.reduceLE, Int.reduceBEq, Int.reduceAdd, Int.reduceSub, Int.reduceToNat] at g1 g0 hn
  simp only [go_sem, regs0, ↓reduceIte, Nat.reduceAdd, Nat.reduceEqDiff, Nat.reduceBEq, Nat.reduceBNe, Nat.reduceLeDiff, Nat.reduceLT, reduceCtorEq, decide_true, decide_false, List.length_map, Int.reduceLT, Int.reduceLE, Int.reduceBEq, Int.reduceAdd, Int.reduceSub, Int.reduceToNat, g0, g1, hn, hlm, hcn, hcm, hnc, hmc, gc, resB_mapF, b1, begin_ref p.n p.l e clears hp, end_prg r hl, end_ref r hl, ended_prg r hl, ended_ref r hl, s1, s2, begins_true, beq_self_eq_true]
  repeat' (first | (refine WGuard_splitN (fun hc => ?_) (fun hc => ?_) <;> (try simp only [go_sem, regs0, ↓reduceIte, Nat.reduceAdd, Nat.reduceEqDiff, Nat.reduceBEq, Nat.reduceBNe, Nat.reduceLeDiff, Nat.reduceLT, reduceCtorEq, decide_true, decide_false, List.length_map, Int.reduceLT, Int.reduceLE, Int.reduceBEq, Int.reduceAdd, Int.reduceSub, Int.reduceToNat, hc, g0, g1, hn, hlm, hcn, hcm, hnc, hmc, gc, resB_mapF, b1, begin_ref p.n p.l e clears hp, end_prg r hl, end_ref r hl, ended_prg r hl, ended_ref r hl, s1, s2, begins_true, beq_self_eq_true])) | (refine WBr_splitN (fun hc => ?_) (fun hc => ?_) <;> (try simp only [go_sem, regs0, ↓reduceIte, Nat.reduceAdd, Nat.reduceEqDiff, Nat.reduceBEq, Nat.reduceBNe, Nat.reduceLeDiff, Nat.reduceLT, reduceCtorEq, decide_true, decide_false, List.length_map, Int.reduceLT, Int.reduceLE, Int.reduceBEq, Int.reduceAdd, Int.reduceSub, Int.reduceToNat, hc, g0, g1, hn, hlm, hcn, hcm, hnc, hmc, gc, resB_mapF, b1, begin_ref p.n p.l e clears hp, end_prg r hl, end_ref r hl, ended_prg r hl, ended_ref r hl, s1, s2, begins_true, beq_self_eq_true])) | (refine WGuard_split (fun hc => ?_) (fun hc => ?_) <;> (try simp only [go_sem, regs0, ↓reduceIte, Nat.reduceAdd, Nat.reduceEqDiff, Nat.reduceBEq, Nat.reduceBNe, Nat.reduceLeDiff, Nat.reduceLT, reduceCtorEq, decide_true, decide_false, List.length_map, Int.reduceLT, Int.reduceLE, Int.reduceBEq, Int.reduceAdd, Int.reduceSub, Int.reduceToNat, hc, g0, g1, hn, hlm, hcn, hcm, hnc, hmc, gc, resB_mapF, b1, begin_ref p.n p.l e clears hp, end_prg r hl, end_ref r hl, ended_prg r hl, ended_ref r hl, s1, s2, begins_true, beq_self_eq_true])) | (refine WBr_split (fun hc => ?_) (fun hc => ?_) <;> (try simp only [go_sem, regs0, ↓reduceIte, Nat.reduceAdd, Nat.reduceEqDiff, Nat.reduceBEq, Nat.reduceBNe, Nat.reduceLeDiff, Nat.reduceLT, reduceCtorEq, decide_true, decide_false, List.length_map, Int.reduceLT, Int.reduceLE, Int.reduceBEq, Int.reduceAdd, Int.reduceSub, Int.reduceToNat, hc, g0, g1, hn, hlm, hcn, hcm, hnc, hmc, gc, resB_mapF, b1, begin_ref p.n p.l e clears hp, end_prg r hl, end_ref r hl, ended_prg r hl, ended_ref r hl, s1, s2, begins_true, beq_self_eq_true])))
theorem lawDispatchBegins (p : Sl Step) (e : Event) (clears : Bool) (r : Run) (_ : Sl.ok (fun y => Step.ok y) p) (_ : Event.ok e) (_ : True) (_ : Run.ok r) (hb : D.bulkAll [eSl eStep p, eEvent e, .bool clears, eRun r] ≤ 1048576) : pc prog 8 [eSl eStep p, eEvent e, .bool clears, eRun r] = some (.bool true) := by
  have h1 := len_bulkAll (p.l.map eStep)
  have h2 := run_lens (r := r) (rest := [])
  simp only [List.length_map] at h1
  simp only [eSl, D.bulkAll, D.bulk] at hb h2
  exact law_begins p e clears r (by omega) (by omega)
end Go.Proofs.Ytnijbejobbajfaa.D
