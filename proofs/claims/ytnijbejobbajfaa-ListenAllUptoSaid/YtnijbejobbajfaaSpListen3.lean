/- What the program's listen.Add, Has, Remove, Expire, Abort, Due answer. Its conditions: none. -/
import Derived.Test.YtnijbejobbajfaaSpListen2
set_option linter.unusedSimpArgs false
set_option linter.unusedVariables false
set_option linter.unusedSectionVars false
set_option linter.unnecessarySimpa false
namespace Go.Proofs.Ytnijbejobbajfaa.L
open Go.AI
theorem lis_index {fv : V} {p : Listener → Bool} {h : Heap} (n : Bool) (l : List Listener) (hl : l.length ≤ 2 ^ 47) (ht : Tells prog fv eListener p h) :
    ∃ h2, ans prog (.d (.fn 87)) [.d (.list n (l.map eListener)), fv] h = some (.d (.int .i64 (idx p l 0)), h2) ∧ Le h h2 := by
  refine fn_of (fn := c87) rfl rfl ?_
  delta c87
  simp only [go_sem, regs0, ↓reduceIte, Nat.reduceAdd, Nat.reduceEqDiff, Nat.reduceBEq, Nat.reduceBNe, Nat.reduceLeDiff, Nat.reduceLT, reduceCtorEq, decide_true, decide_false, List.length_map, Int.reduceLT, Int.reduceLE, Int.reduceBEq, Int.reduceAdd, Int.reduceSub, Int.reduceToNat]
  refine Wp.rounds l.length (fun s0 k s => s.r 8 = .d (.int .i64 k) ∧ Le h s.h ∧ idx p (l.drop k) k = idx p l 0) ?_ ?_ ?_
  · refine ⟨by simp [go_sem, regs0, ↓reduceIte, Nat.reduceAdd, Nat.reduceEqDiff, Nat.reduceBEq, Nat.reduceBNe, Nat.reduceLeDiff, Nat.reduceLT, reduceCtorEq, decide_true, decide_false, List.length_map, Int.reduceLT, Int.reduceLE, Int.reduceBEq, Int.reduceAdd, Int.reduceSub, Int.reduceToNat], ?_, by simp⟩
    first | exact Le.refl | (repeat' (first | exact Le.refl | assumption | apply Le.bump | (apply Le.put (hb := by (try simp only [Heap.bump_next, Heap.put_next]); omega)) | (apply Le.del (hb := by (try simp only [Heap.bump_next, Heap.put_next]); omega))))
  · rintro k s hk hK ⟨h8, hle, hF⟩
    have r0 := hK.reg 0 rfl; have r1 := hK.reg 1 rfl; have r7 := hK.reg 7 rfl; have hn := hK.next; clear hK; simp only [go_sem, regs0, ↓reduceIte, Nat.reduceAdd, Nat.reduceEqDiff, Nat.reduceBEq, Nat.reduceBNe, Nat.reduceLeDiff, Nat.reduceLT, reduceCtorEq, decide_true, decide_false, List.length_map, Int.reduceLT, Int.reduceLE, Int.reduceBEq, Int.reduceAdd, Int.reduceSub, Int.reduceToNat] at hn r0 r1 r7
    have hw := wrap_nat (show k < 2 ^ 62 by omega)
    rw [drop_cons hk, idx] at hF
    delta c87B0
    simp only [go_sem, regs0, ↓reduceIte, Nat.reduceAdd, Nat.reduceEqDiff, Nat.reduceBEq, Nat.reduceBNe, Nat.reduceLeDiff, Nat.reduceLT, reduceCtorEq, decide_true, decide_false, List.length_map, Int.reduceLT, Int.reduceLE, Int.reduceBEq, Int.reduceAdd, Int.reduceSub, Int.reduceToNat, r0, r1, r7, h8, nat_lt, hk, nat_pos, Int.toNat_natCast, map_get hk]
    refine WVal_call (ht _ l[k] ?_) fun h2 l2 => ?_
    · first | exact Le.refl | (repeat' (first | exact Le.refl | assumption | apply Le.bump | (apply Le.put (hb := by (try simp only [Heap.bump_next, Heap.put_next]); omega)) | (apply Le.del (hb := by (try simp only [Heap.bump_next, Heap.put_next]); omega))))
    simp only [go_sem, regs0, ↓reduceIte, Nat.reduceAdd, Nat.reduceEqDiff, Nat.reduceBEq, Nat.reduceBNe, Nat.reduceLeDiff, Nat.reduceLT, reduceCtorEq, decide_true, decide_false, List.length_map, Int.reduceLT, Int.reduceLE, Int.reduceBEq, Int.reduceAdd, Int.reduceSub, Int.reduceToNat]
    have l3 : Le h h2 := by
      refine Le.trans ?_ l2
      first | exact Le.refl | (repeat' (first | exact Le.refl | assumption | apply Le.bump | (apply Le.put (hb := by (try simp only [Heap.bump_next, Heap.put_next]); omega)) | (apply Le.del (hb := by (try simp only [Heap.bump_next, Heap.put_next]); omega))))
    repeat' (first | (refine WGuard_splitN (fun hc => ?_) (fun hc => ?_) <;> (try simp only [go_sem, regs0, ↓reduceIte, Nat.reduceAdd, Nat.reduceEqDiff, Nat.reduceBEq, Nat.reduceBNe, Nat.reduceLeDiff, Nat.reduceLT, reduceCtorEq, decide_true, decide_false, List.length_map, Int.reduceLT, Int.reduceLE, Int.reduceBEq, Int.reduceAdd, Int.reduceSub, Int.reduceToNat, hc, r0, r1, r7, h8])) | (refine WBr_splitN (fun hc => ?_) (fun hc => ?_) <;> (try simp only [go_sem, regs0, ↓reduceIte, Nat.reduceAdd, Nat.reduceEqDiff, Nat.reduceBEq, Nat.reduceBNe, Nat.reduceLeDiff, Nat.reduceLT, reduceCtorEq, decide_true, decide_false, List.length_map, Int.reduceLT, Int.reduceLE, Int.reduceBEq, Int.reduceAdd, Int.reduceSub, Int.reduceToNat, hc, r0, r1, r7, h8])) | (refine WGuard_split (fun hc => ?_) (fun hc => ?_) <;> (try simp only [go_sem, regs0, ↓reduceIte, Nat.reduceAdd, Nat.reduceEqDiff, Nat.reduceBEq, Nat.reduceBNe, Nat.reduceLeDiff, Nat.reduceLT, reduceCtorEq, decide_true, decide_false, List.length_map, Int.reduceLT, Int.reduceLE, Int.reduceBEq, Int.reduceAdd, Int.reduceSub, Int.reduceToNat, hc, r0, r1, r7, h8])) | (refine WBr_split (fun hc => ?_) (fun hc => ?_) <;> (try simp only [go_sem, regs0, ↓reduceIte, Nat.reduceAdd, Nat.reduceEqDiff, Nat.reduceBEq, Nat.reduceBNe, Nat.reduceLeDiff, Nat.reduceLT, reduceCtorEq, decide_true, decide_false, List.length_map, Int.reduceLT, Int.reduceLE, Int.reduceBEq, Int.reduceAdd, Int.reduceSub, Int.reduceToNat, hc, r0, r1, r7, h8])))
    all_goals (simp_all; first | exact Le.refl | (repeat' (first | exact Le.refl | assumption | apply Le.bump | (apply Le.put (hb := by (try simp only [Heap.bump_next, Heap.put_next]); omega)) | (apply Le.del (hb := by (try simp only [Heap.bump_next, Heap.put_next]); omega)))))
  · rintro s hK ⟨h8, hle, hF⟩
    have r7 := hK.reg 7 rfl; have hn := hK.next; clear hK; simp only [go_sem, regs0, ↓reduceIte, Nat.reduceAdd, Nat.reduceEqDiff, Nat.reduceBEq, Nat.reduceBNe, Nat.reduceLeDiff, Nat.reduceLT, reduceCtorEq, decide_true, decide_false, List.length_map, Int.reduceLT, Int.reduceLE, Int.reduceBEq, Int.reduceAdd, Int.reduceSub, Int.reduceToNat] at hn r7
    delta c87B0
    simp only [go_sem, regs0, ↓reduceIte, Nat.reduceAdd, Nat.reduceEqDiff, Nat.reduceBEq, Nat.reduceBNe, Nat.reduceLeDiff, Nat.reduceLT, reduceCtorEq, decide_true, decide_false, List.length_map, Int.reduceLT, Int.reduceLE, Int.reduceBEq, Int.reduceAdd, Int.reduceSub, Int.reduceToNat, r7, h8, nat_lt, Nat.lt_irrefl]
    refine ⟨by simpa [idx] using hF, ?_⟩
    first | exact Le.refl | (repeat' (first | exact Le.refl | assumption | apply Le.bump | (apply Le.put (hb := by (try simp only [Heap.bump_next, Heap.put_next]); omega)) | (apply Le.del (hb := by (try simp only [Heap.bump_next, Heap.put_next]); omega))))
theorem lis_contains {fv : V} {p : Listener → Bool} {h : Heap} (n : Bool) (l : List Listener) (hl : l.length ≤ 2 ^ 47) (ht : Tells prog fv eListener p h) :
    ∃ h2, ans prog (.d (.fn 62)) [.d (.list n (l.map eListener)), fv] h = some (.d (.bool (l.any p)), h2) ∧ Le h h2 := by
  refine fn_of (fn := c62) rfl rfl ?_
  delta c62
  simp only [go_sem, regs0, ↓reduceIte, Nat.reduceAdd, Nat.reduceEqDiff, Nat.reduceBEq, Nat.reduceBNe, Nat.reduceLeDiff, Nat.reduceLT, reduceCtorEq, decide_true, decide_false, List.length_map, Int.reduceLT, Int.reduceLE, Int.reduceBEq, Int.reduceAdd, Int.reduceSub, Int.reduceToNat]
  have hle : Le h ((h.bump 1).bump 5) := by first | exact Le.refl | (repeat' (first | exact Le.refl | assumption | apply Le.bump | (apply Le.put (hb := by (try simp only [Heap.bump_next, Heap.put_next]); omega)) | (apply Le.del (hb := by (try simp only [Heap.bump_next, Heap.put_next]); omega))))
  refine WVal_call (lis_index n l hl (ht.le hle)) fun h2 l2 => ?_
  simp only [go_sem, regs0, ↓reduceIte, Nat.reduceAdd, Nat.reduceEqDiff, Nat.reduceBEq, Nat.reduceBNe, Nat.reduceLeDiff, Nat.reduceLT, reduceCtorEq, decide_true, decide_false, List.length_map, Int.reduceLT, Int.reduceLE, Int.reduceBEq, Int.reduceAdd, Int.reduceSub, Int.reduceToNat, idx_any', true_and]
  exact hle.trans l2


/-! ### Conditions -/
theorem all_tells (h : Heap) : Tells prog (.d (.fn 61)) eListener (fun _ => true) h := by
  intro h1 x hle
  refine fn_of (fn := c61) rfl rfl ?_
  delta c61
  simp only [go_sem, regs0, ↓reduceIte, Nat.reduceAdd, Nat.reduceEqDiff, Nat.reduceBEq, Nat.reduceBNe, Nat.reduceLeDiff, Nat.reduceLT, reduceCtorEq, decide_true, decide_false, List.length_map, Int.reduceLT, Int.reduceLE, Int.reduceBEq, Int.reduceAdd, Int.reduceSub, Int.reduceToNat, true_and]
  first | exact Le.refl | (repeat' (first | exact Le.refl | assumption | apply Le.bump | (apply Le.put (hb := by (try simp only [Heap.bump_next, Heap.put_next]); omega)) | (apply Le.del (hb := by (try simp only [Heap.bump_next, Heap.put_next]); omega))))
theorem has_tells (h : Heap) (a b : Nat) (node : Int) (kind : List UInt8) (ha : a < h.next) (hb : b < h.next) (h1 : h.get a = some (.els 1 [.d (.int .i64 node)] 0)) (h2 : h.get b = some (.els 1 [.d (.str kind)] 0)) :
    Tells prog (.clo 67 [] [.ptr a 0 0, .ptr b 0 0]) eListener (fun x => x.node == node && x.type_ == kind) h := by
  intro g x hle
  have g1 := (hle.get a ha).trans h1
  have g2 := (hle.get b hb).trans h2
  have ha' := Nat.lt_of_lt_of_le ha hle.next
  have hb' := Nat.lt_of_lt_of_le hb hle.next
  refine clo_of (fn := c67) rfl rfl ?_
  delta c67
  simp only [go_sem, regs0, ↓reduceIte, Nat.reduceAdd, Nat.reduceEqDiff, Nat.reduceBEq, Nat.reduceBNe, Nat.reduceLeDiff, Nat.reduceLT, reduceCtorEq, decide_true, decide_false, List.length_map, Int.reduceLT, Int.reduceLE, Int.reduceBEq, Int.reduceAdd, Int.reduceSub, Int.reduceToNat, g1, g2, low_ne (Nat.le_refl g.next), low_ne' (Nat.le_refl g.next), ha', hb']
  repeat' (first | (refine WGuard_splitN (fun hc => ?_) (fun hc => ?_) <;> (try simp only [go_sem, regs0, ↓reduceIte, Nat.reduceAdd, Nat.reduceEqDiff, Nat.reduceBEq, Nat.reduceBNe, Nat.reduceLeDiff, Nat.reduceLT, reduceCtorEq, decide_true, decide_false, List.length_map, Int.reduceLT, Int.reduceLE, Int.reduceBEq, Int.reduceAdd, Int.reduceSub, Int.reduceToNat, hc, g1, g2, low_ne (Nat.le_refl g.next), low_ne' (Nat.le_refl g.next), ha', hb'])) | (refine WBr_splitN (fun hc => ?_) (fun hc => ?_) <;> (try simp only [go_sem, regs0, ↓reduceIte, Nat.reduceAdd, Nat.reduceEqDiff, Nat.reduceBEq, Nat.reduceBNe, Nat.reduceLeDiff, Nat.reduceLT, reduceCtorEq, decide_true, decide_false, List.length_map, Int.reduceLT, Int.reduceLE, Int.reduceBEq, Int.reduceAdd, Int.reduceSub, Int.reduceToNat, hc, g1, g2, low_ne (Nat.le_refl g.next), low_ne' (Nat.le_refl g.next), ha', hb'])) | (refine WGuard_split (fun hc => ?_) (fun hc => ?_) <;> (try simp only [go_sem, regs0, ↓reduceIte, Nat.reduceAdd, Nat.reduceEqDiff, Nat.reduceBEq, Nat.reduceBNe, Nat.reduceLeDiff, Nat.reduceLT, reduceCtorEq, decide_true, decide_false, List.length_map, Int.reduceLT, Int.reduceLE, Int.reduceBEq, Int.reduceAdd, Int.reduceSub, Int.reduceToNat, hc, g1, g2, low_ne (Nat.le_refl g.next), low_ne' (Nat.le_refl g.next), ha', hb'])) | (refine WBr_split (fun hc => ?_) (fun hc => ?_) <;> (try simp only [go_sem, regs0, ↓reduceIte, Nat.reduceAdd, Nat.reduceEqDiff, Nat.reduceBEq, Nat.reduceBNe, Nat.reduceLeDiff, Nat.reduceLT, reduceCtorEq, decide_true, decide_false, List.length_map, Int.reduceLT, Int.reduceLE, Int.reduceBEq, Int.reduceAdd, Int.reduceSub, Int.reduceToNat, hc, g1, g2, low_ne (Nat.le_refl g.next), low_ne' (Nat.le_refl g.next), ha', hb'])))
  all_goals simp_all [Reads_d]
  all_goals first | exact Le.refl | (repeat' (first | exact Le.refl | assumption | apply Le.bump | (apply Le.put (hb := by (try simp only [Heap.bump_next, Heap.put_next]); omega)) | (apply Le.del (hb := by (try simp only [Heap.bump_next, Heap.put_next]); omega))))
theorem has_spec (l : Listeners) (node : Int) (kind : List UInt8) (hl : l.list.l.length ≤ 2 ^ 47) : pc prog 28 [eListeners l, .int .i64 node, .str kind] = some (.bool (l.list.l.any fun x => x.node == node && x.type_ == kind)) := by
  refine pc_of (fn := c28) rfl rfl ?_
  delta c28
  simp only [go_sem, regs0, ↓reduceIte, Nat.reduceAdd, Nat.reduceEqDiff, Nat.reduceBEq, Nat.reduceBNe, Nat.reduceLeDiff, Nat.reduceLT, reduceCtorEq, decide_true, decide_false, List.length_map, Int.reduceLT, Int.reduceLE, Int.reduceBEq, Int.reduceAdd, Int.reduceSub, Int.reduceToNat]
  refine WVal_call (lis_contains _ _ hl (has_tells _ 1 2 node kind ?_ ?_ ?_ ?_)) fun h2 l2 => ?_
  all_goals simp only [go_sem, regs0, ↓reduceIte, Nat.reduceAdd, Nat.reduceEqDiff, Nat.reduceBEq, Nat.reduceBNe, Nat.reduceLeDiff, Nat.reduceLT, reduceCtorEq, decide_true, decide_false, List.length_map, Int.reduceLT, Int.reduceLE, Int.reduceBEq, Int.reduceAdd, Int.reduceSub, Int.reduceToNat]
end Go.Proofs.Ytnijbejobbajfaa.L
