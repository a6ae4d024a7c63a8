/- Shaken copy of a longer text: what one law needs. Its conditions: none. -/
import Derived.Test.YtnijbejobbajfaaZDCode
import Derived.Test.YtnijbejobbajfaaZDTy
set_option linter.unusedSimpArgs false
set_option linter.unusedVariables false
set_option linter.unusedSectionVars false
set_option linter.unnecessarySimpa false
namespace Go.Proofs.Ytnijbejobbajfaa.D
open Go.AI
def alike (a b : Listener) : Bool := a.node == b.node && a.type_ == b.type_ && a.callback == b.callback && a.capture == b.capture
theorem alike_spec (a b : Listener) : pc prog 88 [eListener a, eListener b] = some (.bool (alike a b)) := by
  refine pc_of (fn := c88) rfl rfl ?_
  delta c88
  simp only [go_sem, regs0, ↓reduceIte, Nat.reduceAdd, Nat.reduceEqDiff, Nat.reduceBEq, Nat.reduceBNe, Nat.reduceLeDiff, Nat.reduceLT, reduceCtorEq, decide_true, decide_false, List.length_map, Int.reduceLT, Int.reduceLE, Int.reduceBEq, Int.reduceAdd, Int.reduceSub, Int.reduceToNat]
  repeat' (first | (refine WGuard_splitN (fun hc => ?_) (fun hc => ?_) <;> (try simp only [go_sem, regs0, ↓reduceIte, Nat.reduceAdd, Nat.reduceEqDiff, Nat.reduceBEq, Nat.reduceBNe, Nat.reduceLeDiff, Nat.reduceLT, reduceCtorEq, decide_true, decide_false, List.length_map, Int.reduceLT, Int.reduceLE, Int.reduceBEq, Int.reduceAdd, Int.reduceSub, Int.reduceToNat, hc])) | (refine WBr_splitN (fun hc => ?_) (fun hc => ?_) <;> (try simp only [go_sem, regs0, ↓reduceIte, Nat.reduceAdd, Nat.reduceEqDiff, Nat.reduceBEq, Nat.reduceBNe, Nat.reduceLeDiff, Nat.reduceLT, reduceCtorEq, decide_true, decide_false, List.length_map, Int.reduceLT, Int.reduceLE, Int.reduceBEq, Int.reduceAdd, Int.reduceSub, Int.reduceToNat, hc])) | (refine WGuard_split (fun hc => ?_) (fun hc => ?_) <;> (try simp only [go_sem, regs0, ↓reduceIte, Nat.reduceAdd, Nat.reduceEqDiff, Nat.reduceBEq, Nat.reduceBNe, Nat.reduceLeDiff, Nat.reduceLT, reduceCtorEq, decide_true, decide_false, List.length_map, Int.reduceLT, Int.reduceLE, Int.reduceBEq, Int.reduceAdd, Int.reduceSub, Int.reduceToNat, hc])) | (refine WBr_split (fun hc => ?_) (fun hc => ?_) <;> (try simp only [go_sem, regs0, ↓reduceIte, Nat.reduceAdd, Nat.reduceEqDiff, Nat.reduceBEq, Nat.reduceBNe, Nat.reduceLeDiff, Nat.reduceLT, reduceCtorEq, decide_true, decide_false, List.length_map, Int.reduceLT, Int.reduceLE, Int.reduceBEq, Int.reduceAdd, Int.reduceSub, Int.reduceToNat, hc])))
  all_goals simp_all [alike]
def find (x : Listener) : List Listener → Int → Int
  | [], _ => -1
  | y :: r, k => if alike x y then k else find x r (k + 1)
theorem find_spec (l : List Listener) (nl : Bool) (x : Listener) (hl : l.length ≤ 2 ^ 47) :
    pc prog 64 [.list nl (l.map eListener), eListener x] = some (.int .i64 (find x l 0)) := by
  refine pc_of (fn := c64) rfl rfl ?_
  delta c64
  simp only [go_sem, regs0, ↓reduceIte, Nat.reduceAdd, Nat.reduceEqDiff, Nat.reduceBEq, Nat.reduceBNe, Nat.reduceLeDiff, Nat.reduceLT, reduceCtorEq, decide_true, decide_false, List.length_map, Int.reduceLT, Int.reduceLE, Int.reduceBEq, Int.reduceAdd, Int.reduceSub, Int.reduceToNat]
  refine Wp.rounds l.length (fun s0 k s => s.r 9 = .d (.int .i64 k) ∧ s.h.get 0 = s0.h.get 0 ∧ find x (l.drop k) k = find x l 0) ?_ ?_ ?_
  · simp [go_sem, regs0, ↓reduceIte, Nat.reduceAdd, Nat.reduceEqDiff, Nat.reduceBEq, Nat.reduceBNe, Nat.reduceLeDiff, Nat.reduceLT, reduceCtorEq, decide_true, decide_false, List.length_map, Int.reduceLT, Int.reduceLE, Int.reduceBEq, Int.reduceAdd, Int.reduceSub, Int.reduceToNat]
  · rintro k s hk hK ⟨h9, h0, hF⟩
    have r3 := hK.reg 3 rfl; have r7 := hK.reg 7 rfl; have r8 := hK.reg 8 rfl; have hn := hK.next; clear hK; simp only [go_sem, regs0, ↓reduceIte, Nat.reduceAdd, Nat.reduceEqDiff, Nat.reduceBEq, Nat.reduceBNe, Nat.reduceLeDiff, Nat.reduceLT, reduceCtorEq, decide_true, decide_false, List.length_map, Int.reduceLT, Int.reduceLE, Int.reduceBEq, Int.reduceAdd, Int.reduceSub, Int.reduceToNat] at hn r3 r7 r8 h0
    have hw := wrap_nat (show k < 2 ^ 62 by omega)
    rw [drop_cons hk, find] at hF
    delta c64B0
    simp only [go_sem, regs0, ↓reduceIte, Nat.reduceAdd, Nat.reduceEqDiff, Nat.reduceBEq, Nat.reduceBNe, Nat.reduceLeDiff, Nat.reduceLT, reduceCtorEq, decide_true, decide_false, List.length_map, Int.reduceLT, Int.reduceLE, Int.reduceBEq, Int.reduceAdd, Int.reduceSub, Int.reduceToNat, r3, r7, r8, h9, h0, nat_lt, hk, nat_pos, Int.toNat_natCast, map_get hk, low_ne' hn, alike_spec]
    repeat' (first | (refine WGuard_splitN (fun hc => ?_) (fun hc => ?_) <;> (try simp only [go_sem, regs0, ↓reduceIte, Nat.reduceAdd, Nat.reduceEqDiff, Nat.reduceBEq, Nat.reduceBNe, Nat.reduceLeDiff, Nat.reduceLT, reduceCtorEq, decide_true, decide_false, List.length_map, Int.reduceLT, Int.reduceLE, Int.reduceBEq, Int.reduceAdd, Int.reduceSub, Int.reduceToNat, hc, r3, r7, r8, h9, h0, nat_lt, hk, nat_pos, Int.toNat_natCast, map_get hk, low_ne' hn, alike_spec])) | (refine WBr_splitN (fun hc => ?_) (fun hc => ?_) <;> (try simp only [go_sem, regs0, ↓reduceIte, Nat.reduceAdd, Nat.reduceEqDiff, Nat.reduceBEq, Nat.reduceBNe, Nat.reduceLeDiff, Nat.reduceLT, reduceCtorEq, decide_true, decide_false, List.length_map, Int.reduceLT, Int.reduceLE, Int.reduceBEq, Int.reduceAdd, Int.reduceSub, Int.reduceToNat, hc, r3, r7, r8, h9, h0, nat_lt, hk, nat_pos, Int.toNat_natCast, map_get hk, low_ne' hn, alike_spec])) | (refine WGuard_split (fun hc => ?_) (fun hc => ?_) <;> (try simp only [go_sem, regs0, ↓reduceIte, Nat.reduceAdd, Nat.reduceEqDiff, Nat.reduceBEq, Nat.reduceBNe, Nat.reduceLeDiff, Nat.reduceLT, reduceCtorEq, decide_true, decide_false, List.length_map, Int.reduceLT, Int.reduceLE, Int.reduceBEq, Int.reduceAdd, Int.reduceSub, Int.reduceToNat, hc, r3, r7, r8, h9, h0, nat_lt, hk, nat_pos, Int.toNat_natCast, map_get hk, low_ne' hn, alike_spec])) | (refine WBr_split (fun hc => ?_) (fun hc => ?_) <;> (try simp only [go_sem, regs0, ↓reduceIte, Nat.reduceAdd, Nat.reduceEqDiff, Nat.reduceBEq, Nat.reduceBNe, Nat.reduceLeDiff, Nat.reduceLT, reduceCtorEq, decide_true, decide_false, List.length_map, Int.reduceLT, Int.reduceLE, Int.reduceBEq, Int.reduceAdd, Int.reduceSub, Int.reduceToNat, hc, r3, r7, r8, h9, h0, nat_lt, hk, nat_pos, Int.toNat_natCast, map_get hk, low_ne' hn, alike_spec])))
    all_goals simp_all
  · rintro s hK ⟨h9, h0, hF⟩
    have r8 := hK.reg 8 rfl; have hn := hK.next; clear hK; simp only [go_sem, regs0, ↓reduceIte, Nat.reduceAdd, Nat.reduceEqDiff, Nat.reduceBEq, Nat.reduceBNe, Nat.reduceLeDiff, Nat.reduceLT, reduceCtorEq, decide_true, decide_false, List.length_map, Int.reduceLT, Int.reduceLE, Int.reduceBEq, Int.reduceAdd, Int.reduceSub, Int.reduceToNat] at hn r8 h0
    delta c64B0
    simp only [go_sem, regs0, ↓reduceIte, Nat.reduceAdd, Nat.reduceEqDiff, Nat.reduceBEq, Nat.reduceBNe, Nat.reduceLeDiff, Nat.reduceLT, reduceCtorEq, decide_true, decide_false, List.length_map, Int.reduceLT, Int.reduceLE, Int.reduceBEq, Int.reduceAdd, Int.reduceSub, Int.reduceToNat, r8, h9, h0, nat_lt, Nat.lt_irrefl]
    simpa [find] using hF
def next (l : Listeners) : Int := if l.next == 0 && l.list.l.length == 0 then 1 else l.next
theorem next_spec (l : Listeners) : pc prog 65 [eListeners l] = some (.int .i64 (next l)) := by
  refine pc_of (fn := c65) rfl rfl ?_
  delta c65
  simp only [go_sem, regs0, ↓reduceIte, Nat.reduceAdd, Nat.reduceEqDiff, Nat.reduceBEq, Nat.reduceBNe, Nat.reduceLeDiff, Nat.reduceLT, reduceCtorEq, decide_true, decide_false, List.length_map, Int.reduceLT, Int.reduceLE, Int.reduceBEq, Int.reduceAdd, Int.reduceSub, Int.reduceToNat]
  repeat' (first | (refine WGuard_splitN (fun hc => ?_) (fun hc => ?_) <;> (try simp only [go_sem, regs0, ↓reduceIte, Nat.reduceAdd, Nat.reduceEqDiff, Nat.reduceBEq, Nat.reduceBNe, Nat.reduceLeDiff, Nat.reduceLT, reduceCtorEq, decide_true, decide_false, List.length_map, Int.reduceLT, Int.reduceLE, Int.reduceBEq, Int.reduceAdd, Int.reduceSub, Int.reduceToNat, hc])) | (refine WBr_splitN (fun hc => ?_) (fun hc => ?_) <;> (try simp only [go_sem, regs0, ↓reduceIte, Nat.reduceAdd, Nat.reduceEqDiff, Nat.reduceBEq, Nat.reduceBNe, Nat.reduceLeDiff, Nat.reduceLT, reduceCtorEq, decide_true, decide_false, List.length_map, Int.reduceLT, Int.reduceLE, Int.reduceBEq, Int.reduceAdd, Int.reduceSub, Int.reduceToNat, hc])) | (refine WGuard_split (fun hc => ?_) (fun hc => ?_) <;> (try simp only [go_sem, regs0, ↓reduceIte, Nat.reduceAdd, Nat.reduceEqDiff, Nat.reduceBEq, Nat.reduceBNe, Nat.reduceLeDiff, Nat.reduceLT, reduceCtorEq, decide_true, decide_false, List.length_map, Int.reduceLT, Int.reduceLE, Int.reduceBEq, Int.reduceAdd, Int.reduceSub, Int.reduceToNat, hc])) | (refine WBr_split (fun hc => ?_) (fun hc => ?_) <;> (try simp only [go_sem, regs0, ↓reduceIte, Nat.reduceAdd, Nat.reduceEqDiff, Nat.reduceBEq, Nat.reduceBNe, Nat.reduceLeDiff, Nat.reduceLT, reduceCtorEq, decide_true, decide_false, List.length_map, Int.reduceLT, Int.reduceLE, Int.reduceBEq, Int.reduceAdd, Int.reduceSub, Int.reduceToNat, hc])))
  all_goals simp_all [next]
def right (x : Listener) (above below : Int) : Bool := decide (above < x.id) && decide (x.id < below) && x.callback != 0 && decide (1 ≤ x.node) && decide (x.type_.length ≤ 1024) && (x.passive == 1 || x.passive == 2)
theorem right_spec (x : Listener) (above below : Int) : pc prog 66 [eListener x, .int .i64 above, .int .i64 below] = some (.bool (right x above below)) := by
  refine pc_of (fn := c66) rfl rfl ?_
  delta c66
  simp only [go_sem, regs0, ↓reduceIte, Nat.reduceAdd, Nat.reduceEqDiff, Nat.reduceBEq, Nat.reduceBNe, Nat.reduceLeDiff, Nat.reduceLT, reduceCtorEq, decide_true, decide_false, List.length_map, Int.reduceLT, Int.reduceLE, Int.reduceBEq, Int.reduceAdd, Int.reduceSub, Int.reduceToNat]
  repeat' (first | (refine WGuard_splitN (fun hc => ?_) (fun hc => ?_) <;> (try simp only [go_sem, regs0, ↓reduceIte, Nat.reduceAdd, Nat.reduceEqDiff, Nat.reduceBEq, Nat.reduceBNe, Nat.reduceLeDiff, Nat.reduceLT, reduceCtorEq, decide_true, decide_false, List.length_map, Int.reduceLT, Int.reduceLE, Int.reduceBEq, Int.reduceAdd, Int.reduceSub, Int.reduceToNat, hc])) | (refine WBr_splitN (fun hc => ?_) (fun hc => ?_) <;> (try simp only [go_sem, regs0, ↓reduceIte, Nat.reduceAdd, Nat.reduceEqDiff, Nat.reduceBEq, Nat.reduceBNe, Nat.reduceLeDiff, Nat.reduceLT, reduceCtorEq, decide_true, decide_false, List.length_map, Int.reduceLT, Int.reduceLE, Int.reduceBEq, Int.reduceAdd, Int.reduceSub, Int.reduceToNat, hc])) | (refine WGuard_split (fun hc => ?_) (fun hc => ?_) <;> (try simp only [go_sem, regs0, ↓reduceIte, Nat.reduceAdd, Nat.reduceEqDiff, Nat.reduceBEq, Nat.reduceBNe, Nat.reduceLeDiff, Nat.reduceLT, reduceCtorEq, decide_true, decide_false, List.length_map, Int.reduceLT, Int.reduceLE, Int.reduceBEq, Int.reduceAdd, Int.reduceSub, Int.reduceToNat, hc])) | (refine WBr_split (fun hc => ?_) (fun hc => ?_) <;> (try simp only [go_sem, regs0, ↓reduceIte, Nat.reduceAdd, Nat.reduceEqDiff, Nat.reduceBEq, Nat.reduceBNe, Nat.reduceLeDiff, Nat.reduceLT, reduceCtorEq, decide_true, decide_false, List.length_map, Int.reduceLT, Int.reduceLE, Int.reduceBEq, Int.reduceAdd, Int.reduceSub, Int.reduceToNat, hc])))
  all_goals (try simp_all [Reads_d, right]); all_goals (try omega); all_goals (try (rw [Bool.eq_iff_iff]; simp_all)); all_goals (try omega)
def placeOf (x : Listener) : listen_place := ⟨x.node, x.type_, x.callback, x.capture⟩
theorem placeOf_spec (x : Listener) : pc prog 59 [eListener x] = some (elisten_place (placeOf x)) := by
  refine pc_of (fn := c59) rfl rfl ?_
  delta c59
  simp only [go_sem, regs0, ↓reduceIte, Nat.reduceAdd, Nat.reduceEqDiff, Nat.reduceBEq, Nat.reduceBNe, Nat.reduceLeDiff, Nat.reduceLT, reduceCtorEq, decide_true, decide_false, List.length_map, Int.reduceLT, Int.reduceLE, Int.reduceBEq, Int.reduceAdd, Int.reduceSub, Int.reduceToNat]
  rfl
end Go.Proofs.Ytnijbejobbajfaa.D
