/- The law ListenDues. Its conditions: none. -/
import Derived.Test.YtnijbejobbajfaaSpListen11
set_option linter.unusedSimpArgs false
set_option linter.unusedVariables false
set_option linter.unusedSectionVars false
set_option linter.unnecessarySimpa false
namespace Go.Proofs.Ytnijbejobbajfaa.L
open Go.AI
theorem law_dues (l : Listeners) (node : Int) (kind : List UInt8) (phase : Int) (capture : Bool) (hl : l.list.l.length ≤ 2 ^ 31) : pc prog 4 [eListeners l, .int .i64 node, .str kind, .int .u8 phase, .bool capture] = some (.bool true) := by
  refine pc_of (fn := c4) rfl rfl ?_
  delta c4
  simp only [go_sem, regs0, ↓reduceIte, Nat.reduceAdd, Nat.reduceEqDiff, Nat.reduceBEq, Nat.reduceBNe, Nat.reduceLeDiff, Nat.reduceLT, reduceCtorEq, decide_true, decide_false, List.length_map, Int.reduceLT, Int.reduceLE, Int.reduceBEq, Int.reduceAdd, Int.reduceSub, Int.reduceToNat, prg_due, ref_due]
  refine (Wp.with_kept (Wp.rounds (Q := fun e s => e = .exit 0 ∧ s.r 15 = .d (.bool (l.list.l.any fun x => x.node == node && x.type_ == kind)) ∧ s.h.get 0 = some (.els 2 [.d (eListeners l)] 0)) l.list.l.length (fun s0 i s => ∃ b, s.r 39 = .d (.int .i64 i) ∧ s.h.get 0 = s0.h.get 0 ∧ s.r 15 = .d (.bool b) ∧ (b || (l.list.l.drop i).any fun x => x.node == node && x.type_ == kind) = l.list.l.any fun x => x.node == node && x.type_ == kind) ?_ ?_ ?_)).mono ?_
  · exact ⟨false, by simp [go_sem, regs0, ↓reduceIte, Nat.reduceAdd, Nat.reduceEqDiff, Nat.reduceBEq, Nat.reduceBNe, Nat.reduceLeDiff, Nat.reduceLT, reduceCtorEq, decide_true, decide_false, List.length_map, Int.reduceLT, Int.reduceLE, Int.reduceBEq, Int.reduceAdd, Int.reduceSub, Int.reduceToNat], rfl, by simp [go_sem, regs0, ↓reduceIte, Nat.reduceAdd, Nat.reduceEqDiff, Nat.reduceBEq, Nat.reduceBNe, Nat.reduceLeDiff, Nat.reduceLT, reduceCtorEq, decide_true, decide_false, List.length_map, Int.reduceLT, Int.reduceLE, Int.reduceBEq, Int.reduceAdd, Int.reduceSub, Int.reduceToNat], by simp⟩
  · rintro i s hi hK ⟨b, h39, h0, h15, hF⟩
    have r1 := hK.reg 1 rfl; have r2 := hK.reg 2 rfl; have r5 := hK.reg 5 rfl; have r37 := hK.reg 37 rfl; have r38 := hK.reg 38 rfl; have hn := hK.next; clear hK; simp only [go_sem, regs0, ↓reduceIte, Nat.reduceAdd, Nat.reduceEqDiff, Nat.reduceBEq, Nat.reduceBNe, Nat.reduceLeDiff, Nat.reduceLT, reduceCtorEq, decide_true, decide_false, List.length_map, Int.reduceLT, Int.reduceLE, Int.reduceBEq, Int.reduceAdd, Int.reduceSub, Int.reduceToNat] at hn r1 r2 r5 r37 r38 h0
    have hw := wrap_nat (show i < 2 ^ 62 by omega)
    rw [drop_cons hi, List.any_cons] at hF
    delta c4B0
    simp only [go_sem, regs0, ↓reduceIte, Nat.reduceAdd, Nat.reduceEqDiff, Nat.reduceBEq, Nat.reduceBNe, Nat.reduceLeDiff, Nat.reduceLT, reduceCtorEq, decide_true, decide_false, List.length_map, Int.reduceLT, Int.reduceLE, Int.reduceBEq, Int.reduceAdd, Int.reduceSub, Int.reduceToNat, r1, r2, r5, r37, r38, h39, h0, h15, nat_lt, hi, nat_pos, Int.toNat_natCast, map_get hi, low_ne' hn]
    repeat' (first | (refine WGuard_splitN (fun hc => ?_) (fun hc => ?_) <;> (try simp only [go_sem, regs0, ↓reduceIte, Nat.reduceAdd, Nat.reduceEqDiff, Nat.reduceBEq, Nat.reduceBNe, Nat.reduceLeDiff, Nat.reduceLT, reduceCtorEq, decide_true, decide_false, List.length_map, Int.reduceLT, Int.reduceLE, Int.reduceBEq, Int.reduceAdd, Int.reduceSub, Int.reduceToNat, hc, r1, r2, r5, r37, r38, h39, h0, h15, nat_lt, hi, nat_pos, Int.toNat_natCast, map_get hi, low_ne' hn])) | (refine WBr_splitN (fun hc => ?_) (fun hc => ?_) <;> (try simp only [go_sem, regs0, ↓reduceIte, Nat.reduceAdd, Nat.reduceEqDiff, Nat.reduceBEq, Nat.reduceBNe, Nat.reduceLeDiff, Nat.reduceLT, reduceCtorEq, decide_true, decide_false, List.length_map, Int.reduceLT, Int.reduceLE, Int.reduceBEq, Int.reduceAdd, Int.reduceSub, Int.reduceToNat, hc, r1, r2, r5, r37, r38, h39, h0, h15, nat_lt, hi, nat_pos, Int.toNat_natCast, map_get hi, low_ne' hn])) | (refine WGuard_split (fun hc => ?_) (fun hc => ?_) <;> (try simp only [go_sem, regs0, ↓reduceIte, Nat.reduceAdd, Nat.reduceEqDiff, Nat.reduceBEq, Nat.reduceBNe, Nat.reduceLeDiff, Nat.reduceLT, reduceCtorEq, decide_true, decide_false, List.length_map, Int.reduceLT, Int.reduceLE, Int.reduceBEq, Int.reduceAdd, Int.reduceSub, Int.reduceToNat, hc, r1, r2, r5, r37, r38, h39, h0, h15, nat_lt, hi, nat_pos, Int.toNat_natCast, map_get hi, low_ne' hn])) | (refine WBr_split (fun hc => ?_) (fun hc => ?_) <;> (try simp only [go_sem, regs0, ↓reduceIte, Nat.reduceAdd, Nat.reduceEqDiff, Nat.reduceBEq, Nat.reduceBNe, Nat.reduceLeDiff, Nat.reduceLT, reduceCtorEq, decide_true, decide_false, List.length_map, Int.reduceLT, Int.reduceLE, Int.reduceBEq, Int.reduceAdd, Int.reduceSub, Int.reduceToNat, hc, r1, r2, r5, r37, r38, h39, h0, h15, nat_lt, hi, nat_pos, Int.toNat_natCast, map_get hi, low_ne' hn])))
    · exact ⟨_, by rw [hw], rfl, by simp_all⟩
    · exact ⟨_, by rw [hw], rfl, by simp_all⟩
    · exact ⟨_, by rw [hw], rfl, by simp_all⟩
  · rintro s hK ⟨b, h39, h0, h15, hF⟩
    have r38 := hK.reg 38 rfl; have hn := hK.next; clear hK; simp only [go_sem, regs0, ↓reduceIte, Nat.reduceAdd, Nat.reduceEqDiff, Nat.reduceBEq, Nat.reduceBNe, Nat.reduceLeDiff, Nat.reduceLT, reduceCtorEq, decide_true, decide_false, List.length_map, Int.reduceLT, Int.reduceLE, Int.reduceBEq, Int.reduceAdd, Int.reduceSub, Int.reduceToNat] at hn r38 h0
    delta c4B0
    simp only [go_sem, regs0, ↓reduceIte, Nat.reduceAdd, Nat.reduceEqDiff, Nat.reduceBEq, Nat.reduceBNe, Nat.reduceLeDiff, Nat.reduceLT, reduceCtorEq, decide_true, decide_false, List.length_map, Int.reduceLT, Int.reduceLE, Int.reduceBEq, Int.reduceAdd, Int.reduceSub, Int.reduceToNat, r38, h39, h0, h15, nat_lt, Nat.lt_irrefl]
    simpa using hF
  · rintro e s ⟨K, rfl, h15, h0⟩
    have r1 := K.reg 1 rfl
    have r2 := K.reg 2 rfl
    have r5 := K.reg 5 rfl
    have r11 := K.reg 11 rfl
    have r12 := K.reg 12 rfl
    have r13 := K.reg 13 rfl
    have r14 := K.reg 14 rfl
    clear K
    simp only [go_sem, regs0, ↓reduceIte, Nat.reduceAdd, Nat.reduceEqDiff, Nat.reduceBEq, Nat.reduceBNe, Nat.reduceLeDiff, Nat.reduceLT, reduceCtorEq, decide_true, decide_false, List.length_map, Int.reduceLT, Int.reduceLE, Int.reduceBEq, Int.reduceAdd, Int.reduceSub, Int.reduceToNat] at r1 r2 r5 r11 r12 r13 r14
    have hil : (due l node kind phase capture).1.l.length ≤ 2 ^ 47 := by
      have h : ∀ c, (dueL node kind c l.list.l).length ≤ l.list.l.length := fun c => by
        rw [dueL, List.length_map]; exact List.length_filter_le _ _
      have h1 := h true; have h2 := h false; have h3 := h capture
      unfold due
      split <;> (try split) <;> (try split) <;> (try split) <;> simp <;> omega
    simp only [go_sem, regs0, ↓reduceIte, Nat.reduceAdd, Nat.reduceEqDiff, Nat.reduceBEq, Nat.reduceBNe, Nat.reduceLeDiff, Nat.reduceLT, reduceCtorEq, decide_true, decide_false, List.length_map, Int.reduceLT, Int.reduceLE, Int.reduceBEq, Int.reduceAdd, Int.reduceSub, Int.reduceToNat, r1, r2, r5, r11, r12, r13, r14, h15, h0, lives_true, ints_true _ _ _ hil, has_spec l _ _ (show l.list.l.length ≤ 2 ^ 47 by omega), beq_self_eq_true]
    repeat' (first | (refine WGuard_splitN (fun hc => ?_) (fun hc => ?_) <;> (try simp only [go_sem, regs0, ↓reduceIte, Nat.reduceAdd, Nat.reduceEqDiff, Nat.reduceBEq, Nat.reduceBNe, Nat.reduceLeDiff, Nat.reduceLT, reduceCtorEq, decide_true, decide_false, List.length_map, Int.reduceLT, Int.reduceLE, Int.reduceBEq, Int.reduceAdd, Int.reduceSub, Int.reduceToNat, hc, r1, r2, r5, r11, r12, r13, r14, h15, h0, lives_true, ints_true _ _ _ hil, has_spec l _ _ (show l.list.l.length ≤ 2 ^ 47 by omega), beq_self_eq_true])) | (refine WBr_splitN (fun hc => ?_) (fun hc => ?_) <;> (try simp only [go_sem, regs0, ↓reduceIte, Nat.reduceAdd, Nat.reduceEqDiff, Nat.reduceBEq, Nat.reduceBNe, Nat.reduceLeDiff, Nat.reduceLT, reduceCtorEq, decide_true, decide_false, List.length_map, Int.reduceLT, Int.reduceLE, Int.reduceBEq, Int.reduceAdd, Int.reduceSub, Int.reduceToNat, hc, r1, r2, r5, r11, r12, r13, r14, h15, h0, lives_true, ints_true _ _ _ hil, has_spec l _ _ (show l.list.l.length ≤ 2 ^ 47 by omega), beq_self_eq_true])) | (refine WGuard_split (fun hc => ?_) (fun hc => ?_) <;> (try simp only [go_sem, regs0, ↓reduceIte, Nat.reduceAdd, Nat.reduceEqDiff, Nat.reduceBEq, Nat.reduceBNe, Nat.reduceLeDiff, Nat.reduceLT, reduceCtorEq, decide_true, decide_false, List.length_map, Int.reduceLT, Int.reduceLE, Int.reduceBEq, Int.reduceAdd, Int.reduceSub, Int.reduceToNat, hc, r1, r2, r5, r11, r12, r13, r14, h15, h0, lives_true, ints_true _ _ _ hil, has_spec l _ _ (show l.list.l.length ≤ 2 ^ 47 by omega), beq_self_eq_true])) | (refine WBr_split (fun hc => ?_) (fun hc => ?_) <;> (try simp only [go_sem, regs0, ↓reduceIte, Nat.reduceAdd, Nat.reduceEqDiff, Nat.reduceBEq, Nat.reduceBNe, Nat.reduceLeDiff, Nat.reduceLT, reduceCtorEq, decide_true, decide_false, List.length_map, Int.reduceLT, Int.reduceLE, Int.reduceBEq, Int.reduceAdd, Int.reduceSub, Int.reduceToNat, hc, r1, r2, r5, r11, r12, r13, r14, h15, h0, lives_true, ints_true _ _ _ hil, has_spec l _ _ (show l.list.l.length ≤ 2 ^ 47 by omega), beq_self_eq_true])))
    all_goals trace_state
theorem len_bulk (l : Listeners) (r : List D) : l.list.l.length ≤ D.bulkAll (eListeners l :: r) := by
  have := len_bulkAll (l.list.l.map eListener)
  simp only [List.length_map] at this
  simp only [eListeners, D.bulkAll, D.bulk]
  omega
theorem lawListenDues (l : Listeners) (node : Int) (kind : List UInt8) (phase : Int) (capture : Bool) (_ : Listeners.ok l) (_ : IntKind.i64.min ≤ node ∧ node ≤ IntKind.i64.max) (_ : kind.length ≤ maxLen) (_ : IntKind.u8.min ≤ phase ∧ phase ≤ IntKind.u8.max) (_ : True)
    (hb : D.bulkAll [eListeners l, .int .i64 node, .str kind, .int .u8 phase, .bool capture] ≤ 1048576) : pc prog 4 [eListeners l, .int .i64 node, .str kind, .int .u8 phase, .bool capture] = some (.bool true) :=
  law_dues l node kind phase capture (by have := len_bulk l [.int .i64 node, .str kind, .int .u8 phase, .bool capture]; omega)
end Go.Proofs.Ytnijbejobbajfaa.L
