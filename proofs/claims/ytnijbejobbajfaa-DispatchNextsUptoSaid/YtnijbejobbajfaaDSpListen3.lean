/- What the program's listen.Add, Has, Remove, Expire, Abort, Due answer. Its conditions: none. -/
import Derived.Test.YtnijbejobbajfaaDSpListen2
set_option linter.unusedSimpArgs false
set_option linter.unusedVariables false
set_option linter.unusedSectionVars false
set_option linter.unnecessarySimpa false
namespace Go.Proofs.Ytnijbejobbajfaa.D
open Go.AI
theorem lis_index {fv : V} {p : Listener → Bool} {h : Heap} (n : Bool) (l : List Listener) (hl : l.length ≤ 2 ^ 47) (ht : Tells prog fv eListener p h) :
    ∃ h2, ans prog (.d (.fn 87)) [.d (.list n (l.map eListener)), fv] h = some (.d (.int .i64 (idx p l 0)), h2) ∧ Le h h2 := by
  refine fn_of (fn := c87) rfl rfl ?_
  delta c87
  simp only [go_sem, regs0, ↓reduceIte, Nat.reduceAdd, Nat.reduceEqDiff, Nat.reduceBEq, Nat.reduceBNe, Nat.reduceLeDiff, Nat.reduceLT, reduceCtorEq, decide_true, decide_false, List.length_map, Int.reduceLT, Int.reduceLE, Int.reduceBEq, Int.reduceAdd, Int.reduceSub, Int.reduceToNat]
  refine Wp.rounds l.length (fun s0 k s => s.r 8 = .d (.int .i64 k) ∧ Le h s.h ∧ idx p (l.drop k) k = idx p l 0) ?_ ?_ ?_
  · refine ⟨by simp [go_sem, regs0, ↓reduceIte, Nat.reduceAdd, Nat.reduceEqDiff, Nat.reduceBEq, Nat.reduceBNe, Nat.reduceLeDiff, Nat.reduceLT, reduceCtorEq, decide_true, decide_false, List.length_map, Int.reduceLT, Int.reduceLE, Int.reduceBEq, Int.reduceAdd, Int.reduceSub, Int.reduceToNat], ?_, by simp⟩
    first | exact Le.refl | (repeat' (first | exact Le.refl | assumption | apply Le.bump | (apply Le.put (hb := by (try simp only [Heap.bump_next, Heap.put_next]); omega)) | (apply Le.del (hb := by (try simp only [Heap.bump_next, Heap.put_next]); omega))))
  · rintro k s hk hK ⟨h8, hle, hF⟩
    have r0 := hK.reg 0 rfl; have r1 := hK.reg 1 rfl; have r7 := hK.reg 7 rfl; have hn := hK.next; clear hK; simp only [go_sem, regs0, ↓reduceIte, Nat.reduceAdd, Nat.reduceEqDiff, Nat.reduceBEq, Nat.reduceBNe, Nat.reduceLeDiff, Nat.reduceLT, reduceCtorEq, decide_true, decide_false, List.length_map, Int.reduceLT, Int.reduceLE, Int.reduceBEq, Int.reduceAdd, Int.reduceSub, Int.reduceToNat] at hn r0 r1 r7
    have hw := wrap_nat (show k < 2 ^ 62 by omega)
    rw [drop_cons hk, idx] at hF
    delta c87B0
    simp only [go_sem, regs0, ↓reduceIte, Nat.reduceAdd, Nat.reduceEqDiff, Nat.reduceBEq, Nat.reduceBNe, Nat.reduceLeDiff, Nat.reduceLT, reduceCtorEq, decide_true, decide_false, List.length_map, Int.reduceLT, Int.reduceLE, Int.reduceBEq, Int.reduceAdd, Int.reduceSub, Int.reduceToNat, r0, r1, r7, h8, nat_lt, hk, nat_pos, Int.toNat_natCast, map_get hk]
    refine WVal_call (ht _ l[k] ?_) fun h2 l2 => ?_
    · first | exact Le.refl | (repeat' (first | exact Le.refl | assumption | apply Le.bump | (apply Le.put (hb := by (try simp only [Heap.bump_next, Heap.put_next]); omega)) | (apply Le.del (hb := by (try simp only [Heap.bump_next, Heap.put_next]); omega))))
    simp only [go_sem, regs0, ↓reduceIte, Nat.reduceAdd, Nat.reduceEqDiff, Nat.reduceBEq, Nat.reduceBNe, Nat.reduceLeDiff, Nat.reduceLT, reduceCtorEq, decide_true, decide_false, List.length_map, Int.reduceLT, Int.reduceLE, Int.reduceBEq, Int.reduceAdd, Int.reduceSub, Int.reduceToNat]
    have l3 : Le h h2 := by
      refine Le.trans ?_ l2
      first | exact Le.refl | (repeat' (first | exact Le.refl | assumption | apply Le.bump | (apply Le.put (hb := by (try simp only [Heap.bump_next, Heap.put_next]); omega)) | (apply Le.del (hb := by (try simp only [Heap.bump_next, Heap.put_next]); omega))))
    repeat' (first | (refine WGuard_splitN (fun hc => ?_) (fun hc => ?_) <;> (try simp only [go_sem, regs0, ↓reduceIte, Nat.reduceAdd, Nat.reduceEqDiff, Nat.reduceBEq, Nat.reduceBNe, Nat.reduceLeDiff, Nat.reduceLT, reduceCtorEq, decide_true, decide_false, List.length_map, Int.reduceLT, Int.reduceLE, Int.reduceBEq, Int.reduceAdd, Int.reduceSub, Int.reduceToNat, hc, r0, r1, r7, h8])) | (refine WBr_splitN (fun hc => ?_) (fun hc => ?_) <;> (try simp only [go_sem, regs0, ↓reduceIte, Nat.reduceAdd, Nat.reduceEqDiff, Nat.reduceBEq, Nat.reduceBNe, Nat.reduceLeDiff, Nat.reduceLT, reduceCtorEq, decide_true, decide_false, List.length_map, Int.reduceLT, Int.reduceLE, Int.reduceBEq, Int.reduceAdd, Int.reduceSub, Int.reduceToNat, hc, r0, r1, r7, h8])) | (refine WGuard_split (fun hc => ?_) (fun hc => ?_) <;> (try simp only [go_sem, regs0, ↓reduceIte, Nat.reduceAdd, Nat.reduceEqDiff, Nat.reduceBEq, Nat.reduceBNe, Nat.reduceLeDiff, Nat.reduceLT, reduceCtorEq, decide_true, decide_false, List.length_map, Int.reduceLT, Int.reduceLE, Int.reduceBEq, Int.reduceAdd, Int.reduceSub, Int.reduceToNat, hc, r0, r1, r7, h8])) | (refine WBr_split (fun hc => ?_) (fun hc => ?_) <;> (try simp only [go_sem, regs0, ↓reduceIte, Nat.reduceAdd, Nat.reduceEqDiff, Nat.reduceBEq, Nat.reduceBNe, Nat.reduceLeDiff, Nat.reduceLT, reduceCtorEq, decide_true, decide_false, List.length_map, Int.reduceLT, Int.reduceLE, Int.reduceBEq, Int.reduceAdd, Int.reduceSub, Int.reduceToNat, hc, r0, r1, r7, h8])))
    all_goals (simp_all; first | exact Le.refl | (repeat' (first | exact Le.refl | assumption | apply Le.bump | (apply Le.put (hb := by (try simp only [Heap.bump_next, Heap.put_next]); omega)) | (apply Le.del (hb := by (try simp only [Heap.bump_next, Heap.put_next]); omega)))))
  · rintro s hK ⟨h8, hle, hF⟩
    have r7 := hK.reg 7 rfl; have hn := hK.next; clear hK; simp only [go_sem, regs0, ↓reduceIte, Nat.reduceAdd, Nat.reduceEqDiff, Nat.reduceBEq, Nat.reduceBNe, Nat.reduceLeDiff, Nat.reduceLT, reduceCtorEq, decide_true, decide_false, List.length_map, Int.reduceLT, Int.reduceLE, Int.reduceBEq, Int.reduceAdd, Int.reduceSub, Int.reduceToNat] at hn r7
    delta c87B0
    simp only [go_sem, regs0, ↓reduceIte, Nat.reduceAdd, Nat.reduceEqDiff, Nat.reduceBEq, Nat.reduceBNe, Nat.reduceLeDiff, Nat.reduceLT, reduceCtorEq, decide_true, decide_false, List.length_map, Int.reduceLT, Int.reduceLE, Int.reduceBEq, Int.reduceAdd, Int.reduceSub, Int.reduceToNat, r7, h8, nat_lt, Nat.lt_irrefl]
    refine ⟨by simpa [idx] using hF, ?_⟩
    first | exact Le.refl | (repeat' (first | exact Le.refl | assumption | apply Le.bump | (apply Le.put (hb := by (try simp only [Heap.bump_next, Heap.put_next]); omega)) | (apply Le.del (hb := by (try simp only [Heap.bump_next, Heap.put_next]); omega))))

end Go.Proofs.Ytnijbejobbajfaa.D
