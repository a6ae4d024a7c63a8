/- The law ListenAdds. Its conditions: none. -/
import Derived.Test.YtnijbejobbajfaaSpTakes
set_option linter.unusedSimpArgs false
set_option linter.unusedVariables false
set_option linter.unusedSectionVars false
set_option linter.unnecessarySimpa false
namespace Go.Proofs.Ytnijbejobbajfaa.L
open Go.AI
theorem add_le (n : Bool) (l : Listeners) (x : Listener) (root aborted : Bool) : (add n l x root aborted).1.list.l.length ≤ l.list.l.length + 1 := by
  unfold add
  split
  · simp [Listeners.zero]
  split
  · simp [Listeners.zero]
  split
  · simp [Listeners.zero]
  split
  · simp
  split <;> simp [Listeners.zero]
theorem add_flag (n m : Bool) (l : Listeners) (x : Listener) (root aborted : Bool) : (add n l x root aborted).1.list.l = (add m l x root aborted).1.list.l ∧ (add n l x root aborted).1.next = (add m l x root aborted).1.next ∧ (add n l x root aborted).2 = (add m l x root aborted).2 := by
  unfold add
  split
  · simp
  split
  · simp
  split
  · simp
  split
  · simp
  split <;> simp
set_option maxRecDepth 100000 in
theorem law_adds (l : Listeners) (x : Listener) (root aborted : Bool) (hl : l.list.l.length ≤ 2 ^ 31) : pc prog 3 [eListeners l, eListener x, .bool root, .bool aborted] = some (.bool true) := by
  have hroom : l.list.l.length * 56 ≤ AI.roomBytes := room_le (n := l.list.l.length) (bytes := 56) (by omega) (by decide)
  have hs := add_flag l.list.l.isEmpty false l x root aborted
  have s1 := same_eq _ _ hs.1 hs.2.1 (Nat.le_trans (add_le false l x root aborted) (by omega))
  have s4 := same_eq ⟨⟨false, l.list.l⟩, l.next⟩ l rfl rfl (by omega)
  have c1 := add_prg ⟨⟨false, l.list.l⟩, l.next⟩ x root aborted
  rw [show add (List.isEmpty (⟨⟨false, l.list.l⟩, l.next⟩ : Listeners).list.l) ⟨⟨false, l.list.l⟩, l.next⟩ x root aborted = add l.list.l.isEmpty l x root aborted from rfl] at c1
  have hp : D.agg [.list false (l.list.l.map eListener), .int .i64 l.next] = eListeners ⟨⟨false, l.list.l⟩, l.next⟩ := rfl
  refine pc_of (fn := c3) rfl rfl ?_
  delta c3
  simp only [go_sem, regs0, ↓reduceIte, Nat.reduceAdd, Nat.reduceEqDiff, Nat.reduceBEq, Nat.reduceBNe, Nat.reduceLeDiff, Nat.reduceLT, reduceCtorEq, decide_true, decide_false, List.length_map, Int.reduceLT, Int.reduceLE, Int.reduceBEq, Int.reduceAdd, Int.reduceSub, Int.reduceToNat, appV_eq]
  by_cases hne : l.list.l = []
  · have hp0 : D.agg [.list false [], .int .i64 l.next] = eListeners ⟨⟨false, l.list.l⟩, l.next⟩ := by rw [hne]; rfl
    simp only [hne, List.map_nil]
    rw [appO_none rfl]
    rw [hne] at s1 hs c1 s4
    simp only [go_sem, regs0, ↓reduceIte, Nat.reduceAdd, Nat.reduceEqDiff, Nat.reduceBEq, Nat.reduceBNe, Nat.reduceLeDiff, Nat.reduceLT, reduceCtorEq, decide_true, decide_false, List.length_map, Int.reduceLT, Int.reduceLE, Int.reduceBEq, Int.reduceAdd, Int.reduceSub, Int.reduceToNat, hp0, hne, c1, add_ref, s1, s4, lives_true, hs.2.2, check_spec, check_ref, passive_spec, passive_ref, beq_self_eq_true]
    repeat' (first | (refine WGuard_splitN (fun hc => ?_) (fun hc => ?_) <;> (try simp only [go_sem, regs0, ↓reduceIte, Nat.reduceAdd, Nat.reduceEqDiff, Nat.reduceBEq, Nat.reduceBNe, Nat.reduceLeDiff, Nat.reduceLT, reduceCtorEq, decide_true, decide_false, List.length_map, Int.reduceLT, Int.reduceLE, Int.reduceBEq, Int.reduceAdd, Int.reduceSub, Int.reduceToNat, hc, hp0, hne, c1, add_ref, s1, s4, lives_true, hs.2.2, check_spec, check_ref, passive_spec, passive_ref, beq_self_eq_true])) | (refine WBr_splitN (fun hc => ?_) (fun hc => ?_) <;> (try simp only [go_sem, regs0, ↓reduceIte, Nat.reduceAdd, Nat.reduceEqDiff, Nat.reduceBEq, Nat.reduceBNe, Nat.reduceLeDiff, Nat.reduceLT, reduceCtorEq, decide_true, decide_false, List.length_map, Int.reduceLT, Int.reduceLE, Int.reduceBEq, Int.reduceAdd, Int.reduceSub, Int.reduceToNat, hc, hp0, hne, c1, add_ref, s1, s4, lives_true, hs.2.2, check_spec, check_ref, passive_spec, passive_ref, beq_self_eq_true])) | (refine WGuard_split (fun hc => ?_) (fun hc => ?_) <;> (try simp only [go_sem, regs0, ↓reduceIte, Nat.reduceAdd, Nat.reduceEqDiff, Nat.reduceBEq, Nat.reduceBNe, Nat.reduceLeDiff, Nat.reduceLT, reduceCtorEq, decide_true, decide_false, List.length_map, Int.reduceLT, Int.reduceLE, Int.reduceBEq, Int.reduceAdd, Int.reduceSub, Int.reduceToNat, hc, hp0, hne, c1, add_ref, s1, s4, lives_true, hs.2.2, check_spec, check_ref, passive_spec, passive_ref, beq_self_eq_true])) | (refine WBr_split (fun hc => ?_) (fun hc => ?_) <;> (try simp only [go_sem, regs0, ↓reduceIte, Nat.reduceAdd, Nat.reduceEqDiff, Nat.reduceBEq, Nat.reduceBNe, Nat.reduceLeDiff, Nat.reduceLT, reduceCtorEq, decide_true, decide_false, List.length_map, Int.reduceLT, Int.reduceLE, Int.reduceBEq, Int.reduceAdd, Int.reduceSub, Int.reduceToNat, hc, hp0, hne, c1, add_ref, s1, s4, lives_true, hs.2.2, check_spec, check_ref, passive_spec, passive_ref, beq_self_eq_true])))
    all_goals trace_state
  · have hm : ((l.list.l.map eListener).map V.d) ≠ [] := by simpa using hne
    rw [appO_ne hm (eListener_sizedm _), appD_sl]
    have hlm : ((l.list.l.map eListener).map V.d).length = l.list.l.length := by simp
    have hmm : (l.list.l.map eListener).map V.d = l.list.l.map fun y => V.d (eListener y) := by simp
    simp only [go_sem, regs0, ↓reduceIte, Nat.reduceAdd, Nat.reduceEqDiff, Nat.reduceBEq, Nat.reduceBNe, Nat.reduceLeDiff, Nat.reduceLT, reduceCtorEq, decide_true, decide_false, List.length_map, Int.reduceLT, Int.reduceLE, Int.reduceBEq, Int.reduceAdd, Int.reduceSub, Int.reduceToNat, appB_some, hlm, hroom, Nat.zero_add, List.nil_append, hmm, resB_mapF, hp, c1, add_ref, s1, s4, lives_true, hs.2.2, check_spec, check_ref, passive_spec, passive_ref, beq_self_eq_true]
    repeat' (first | (refine WGuard_splitN (fun hc => ?_) (fun hc => ?_) <;> (try simp only [go_sem, regs0, ↓reduceIte, Nat.reduceAdd, Nat.reduceEqDiff, Nat.reduceBEq, Nat.reduceBNe, Nat.reduceLeDiff, Nat.reduceLT, reduceCtorEq, decide_true, decide_false, List.length_map, Int.reduceLT, Int.reduceLE, Int.reduceBEq, Int.reduceAdd, Int.reduceSub, Int.reduceToNat, hc, hp, c1, add_ref, s1, s4, lives_true, hs.2.2, check_spec, check_ref, passive_spec, passive_ref, beq_self_eq_true])) | (refine WBr_splitN (fun hc => ?_) (fun hc => ?_) <;> (try simp only [go_sem, regs0, ↓reduceIte, Nat.reduceAdd, Nat.reduceEqDiff, Nat.reduceBEq, Nat.reduceBNe, Nat.reduceLeDiff, Nat.reduceLT, reduceCtorEq, decide_true, decide_false, List.length_map, Int.reduceLT, Int.reduceLE, Int.reduceBEq, Int.reduceAdd, Int.reduceSub, Int.reduceToNat, hc, hp, c1, add_ref, s1, s4, lives_true, hs.2.2, check_spec, check_ref, passive_spec, passive_ref, beq_self_eq_true])) | (refine WGuard_split (fun hc => ?_) (fun hc => ?_) <;> (try simp only [go_sem, regs0, ↓reduceIte, Nat.reduceAdd, Nat.reduceEqDiff, Nat.reduceBEq, Nat.reduceBNe, Nat.reduceLeDiff, Nat.reduceLT, reduceCtorEq, decide_true, decide_false, List.length_map, Int.reduceLT, Int.reduceLE, Int.reduceBEq, Int.reduceAdd, Int.reduceSub, Int.reduceToNat, hc, hp, c1, add_ref, s1, s4, lives_true, hs.2.2, check_spec, check_ref, passive_spec, passive_ref, beq_self_eq_true])) | (refine WBr_split (fun hc => ?_) (fun hc => ?_) <;> (try simp only [go_sem, regs0, ↓reduceIte, Nat.reduceAdd, Nat.reduceEqDiff, Nat.reduceBEq, Nat.reduceBNe, Nat.reduceLeDiff, Nat.reduceLT, reduceCtorEq, decide_true, decide_false, List.length_map, Int.reduceLT, Int.reduceLE, Int.reduceBEq, Int.reduceAdd, Int.reduceSub, Int.reduceToNat, hc, hp, c1, add_ref, s1, s4, lives_true, hs.2.2, check_spec, check_ref, passive_spec, passive_ref, beq_self_eq_true])))
    all_goals trace_state
theorem lawListenAdds (l : Listeners) (x : Listener) (root aborted : Bool) (_ : Listeners.ok l) (_ : Listener.ok x) (_ : True) (_ : True) (hb : D.bulkAll [eListeners l, eListener x, .bool root, .bool aborted] ≤ 1048576) : pc prog 3 [eListeners l, eListener x, .bool root, .bool aborted] = some (.bool true) :=
  law_adds l x root aborted (by have := len_bulk l [eListener x, .bool root, .bool aborted]; omega)
end Go.Proofs.Ytnijbejobbajfaa.L
