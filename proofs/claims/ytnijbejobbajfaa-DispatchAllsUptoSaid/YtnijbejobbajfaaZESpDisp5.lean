/- Shaken copy of a longer text: what one law needs. Its conditions: none. -/
import Derived.Test.YtnijbejobbajfaaZESpDisp4
set_option linter.unusedSimpArgs false
set_option linter.unusedVariables false
set_option linter.unusedSectionVars false
set_option linter.unnecessarySimpa false
namespace Go.Proofs.Ytnijbejobbajfaa.E
open Go.AI
theorem target_ref (l : List Step) (n : Bool) (at_ : Nat) (ha : at_ < l.length) (hl : l.length ≤ 2 ^ 31) : pc prog 93 [.list n (l.map eStep), .int .i64 at_] = some (.int .i64 (targetL (l.take (at_ + 1)) 0)) := by
  refine pc_of (fn := c93) rfl rfl ?_
  delta c93
  simp only [go_sem, regs0, ↓reduceIte, Nat.reduceAdd, Nat.reduceEqDiff, Nat.reduceBEq, Nat.reduceBNe, Nat.reduceLeDiff, Nat.reduceLT, reduceCtorEq, decide_true, decide_false, List.length_map, Int.reduceLT, Int.reduceLE, Int.reduceBEq, Int.reduceAdd, Int.reduceSub, Int.reduceToNat]
  refine (Wp.rounds (Q := fun e s => e = .exit 0 ∧ s.r 5 = .d (.int .i64 (targetL (l.take (at_ + 1)) 0))) (at_ + 1) (fun s0 k s => s.r 6 = .d (.int .i64 k) ∧ s.r 5 = .d (.int .i64 (targetL (l.take k) 0))) ?_ ?_ ?_).mono ?_
  · simp [go_sem, regs0, ↓reduceIte, Nat.reduceAdd, Nat.reduceEqDiff, Nat.reduceBEq, Nat.reduceBNe, Nat.reduceLeDiff, Nat.reduceLT, reduceCtorEq, decide_true, decide_false, List.length_map, Int.reduceLT, Int.reduceLE, Int.reduceBEq, Int.reduceAdd, Int.reduceSub, Int.reduceToNat, targetL]
  · rintro k s hk hK ⟨h6, h5⟩
    have r0 := hK.reg 0 rfl; have r1 := hK.reg 1 rfl; have hn := hK.next; clear hK; simp only [go_sem, regs0, ↓reduceIte, Nat.reduceAdd, Nat.reduceEqDiff, Nat.reduceBEq, Nat.reduceBNe, Nat.reduceLeDiff, Nat.reduceLT, reduceCtorEq, decide_true, decide_false, List.length_map, Int.reduceLT, Int.reduceLE, Int.reduceBEq, Int.reduceAdd, Int.reduceSub, Int.reduceToNat] at hn r0 r1
    have hk' : k < l.length := by omega
    have hw := wrap_nat (show k < 2 ^ 62 by omega)
    have hle : decide ((k : Int) ≤ (at_ : Int)) = true := by simp; omega
    have ht : targetL (l.take (k + 1)) 0 = if (l[k]).target = 0 then targetL (l.take k) 0 else (l[k]).target := by rw [take_next hk', target_app]
    delta c93B0
    rcases hz : (l[k]).target == 0 with _ | _
    · have hz' : ¬ (l[k]).target = 0 := by simpa using hz
      simp only [go_sem, regs0, ↓reduceIte, Nat.reduceAdd, Nat.reduceEqDiff, Nat.reduceBEq, Nat.reduceBNe, Nat.reduceLeDiff, Nat.reduceLT, reduceCtorEq, decide_true, decide_false, List.length_map, Int.reduceLT, Int.reduceLE, Int.reduceBEq, Int.reduceAdd, Int.reduceSub, Int.reduceToNat, r0, r1, h6, h5, hle, nat_pos, Int.toNat_natCast, map_get hk', hz, hw, ht, if_neg hz', Bool.not_false]
    · have hz' : (l[k]).target = 0 := by simpa using hz
      simp only [go_sem, regs0, ↓reduceIte, Nat.reduceAdd, Nat.reduceEqDiff, Nat.reduceBEq, Nat.reduceBNe, Nat.reduceLeDiff, Nat.reduceLT, reduceCtorEq, decide_true, decide_false, List.length_map, Int.reduceLT, Int.reduceLE, Int.reduceBEq, Int.reduceAdd, Int.reduceSub, Int.reduceToNat, r0, r1, h6, h5, hle, nat_pos, Int.toNat_natCast, map_get hk', hz, hw, ht, if_pos hz', Bool.not_true]
  · rintro s hK ⟨h6, h5⟩
    have r1 := hK.reg 1 rfl; have hn := hK.next; clear hK; simp only [go_sem, regs0, ↓reduceIte, Nat.reduceAdd, Nat.reduceEqDiff, Nat.reduceBEq, Nat.reduceBNe, Nat.reduceLeDiff, Nat.reduceLT, reduceCtorEq, decide_true, decide_false, List.length_map, Int.reduceLT, Int.reduceLE, Int.reduceBEq, Int.reduceAdd, Int.reduceSub, Int.reduceToNat] at hn r1
    have hle : decide (((at_ + 1 : Nat) : Int) ≤ (at_ : Int)) = false := by simp; omega
    delta c93B0
    simp only [go_sem, regs0, ↓reduceIte, Nat.reduceAdd, Nat.reduceEqDiff, Nat.reduceBEq, Nat.reduceBNe, Nat.reduceLeDiff, Nat.reduceLT, reduceCtorEq, decide_true, decide_false, List.length_map, Int.reduceLT, Int.reduceLE, Int.reduceBEq, Int.reduceAdd, Int.reduceSub, Int.reduceToNat, r1, h6, h5, hle]
  · rintro e s ⟨rfl, h5⟩
    simp only [go_sem, regs0, ↓reduceIte, Nat.reduceAdd, Nat.reduceEqDiff, Nat.reduceBEq, Nat.reduceBNe, Nat.reduceLeDiff, Nat.reduceLT, reduceCtorEq, decide_true, decide_false, List.length_map, Int.reduceLT, Int.reduceLE, Int.reduceBEq, Int.reduceAdd, Int.reduceSub, Int.reduceToNat, h5]
def byP (l : List Listener) (id : Int) : Option Listener := l.find? (fun x => x.id == id)
theorem by_ref (l : Listeners) (id : Int) (hl : l.list.l.length ≤ 2 ^ 31) : pc prog 79 [eListeners l, .int .i64 id] = some (.tuple [eListener ((byP l.list.l id).getD .zero), .bool (byP l.list.l id).isSome]) := by
  refine pc_of (fn := c79) rfl rfl ?_
  delta c79
  simp only [go_sem, regs0, ↓reduceIte, Nat.reduceAdd, Nat.reduceEqDiff, Nat.reduceBEq, Nat.reduceBNe, Nat.reduceLeDiff, Nat.reduceLT, reduceCtorEq, decide_true, decide_false, List.length_map, Int.reduceLT, Int.reduceLE, Int.reduceBEq, Int.reduceAdd, Int.reduceSub, Int.reduceToNat]
  refine (Wp.with_kept (Wp.rounds (Q := fun e s => (e = .exit 0 ∧ byP l.list.l id = none ∧ s.h.get 1 = some (.els 8 [.d (.agg [.int .i64 0, .int .i64 0, .str [], .int .i64 0, .bool false, .bool false, .int .u8 0, .int .i64 0])] 0)) ∨ (e = .ret ∧ ∃ x, byP l.list.l id = some x ∧ s.h.get 1 = some (.els 8 [.d (eListener x)] 0) ∧ s.r 5 = .d (.bool true))) l.list.l.length (fun s0 k s => s.r 6 = .d (.int .i64 k) ∧ s.h.get 0 = s0.h.get 0 ∧ s.h.get 1 = s0.h.get 1 ∧ byP (l.list.l.drop k) id = byP l.list.l id) ?_ ?_ ?_)).mono ?_
  · simp [go_sem, regs0, ↓reduceIte, Nat.reduceAdd, Nat.reduceEqDiff, Nat.reduceBEq, Nat.reduceBNe, Nat.reduceLeDiff, Nat.reduceLT, reduceCtorEq, decide_true, decide_false, List.length_map, Int.reduceLT, Int.reduceLE, Int.reduceBEq, Int.reduceAdd, Int.reduceSub, Int.reduceToNat]
  · rintro k s hk hK ⟨h6, h0, h1, hF⟩
    have r1 := hK.reg 1 rfl; have r2 := hK.reg 2 rfl; have r4 := hK.reg 4 rfl; have hn := hK.next; clear hK; simp only [go_sem, regs0, ↓reduceIte, Nat.reduceAdd, Nat.reduceEqDiff, Nat.reduceBEq, Nat.reduceBNe, Nat.reduceLeDiff, Nat.reduceLT, reduceCtorEq, decide_true, decide_false, List.length_map, Int.reduceLT, Int.reduceLE, Int.reduceBEq, Int.reduceAdd, Int.reduceSub, Int.reduceToNat] at hn r1 r2 r4 h0 h1
    have hw := wrap_nat (show k < 2 ^ 62 by omega)
    rw [drop_cons hk] at hF
    delta c79B0
    rcases hz : (l.list.l[k]).id == id with _ | _
    · have hF' : byP (l.list.l.drop (k + 1)) id = byP l.list.l id := by rw [← hF]; simp only [byP, List.find?_cons, hz]
      simp only [go_sem, regs0, ↓reduceIte, Nat.reduceAdd, Nat.reduceEqDiff, Nat.reduceBEq, Nat.reduceBNe, Nat.reduceLeDiff, Nat.reduceLT, reduceCtorEq, decide_true, decide_false, List.length_map, Int.reduceLT, Int.reduceLE, Int.reduceBEq, Int.reduceAdd, Int.reduceSub, Int.reduceToNat, r1, r2, r4, h6, h0, h1, nat_lt, hk, nat_pos, Int.toNat_natCast, map_get hk, hz, hw]
      exact hF'
    · have hF' : byP l.list.l id = some l.list.l[k] := by rw [← hF]; simp only [byP, List.find?_cons, hz]
      simp only [go_sem, regs0, ↓reduceIte, Nat.reduceAdd, Nat.reduceEqDiff, Nat.reduceBEq, Nat.reduceBNe, Nat.reduceLeDiff, Nat.reduceLT, reduceCtorEq, decide_true, decide_false, List.length_map, Int.reduceLT, Int.reduceLE, Int.reduceBEq, Int.reduceAdd, Int.reduceSub, Int.reduceToNat, r1, r2, r4, h6, h0, h1, nat_lt, hk, nat_pos, Int.toNat_natCast, map_get hk, hz, hw]
      exact .inr ⟨_, hF', rfl⟩
  · rintro s hK ⟨h6, h0, h1, hF⟩
    have r2 := hK.reg 2 rfl; have hn := hK.next; clear hK; simp only [go_sem, regs0, ↓reduceIte, Nat.reduceAdd, Nat.reduceEqDiff, Nat.reduceBEq, Nat.reduceBNe, Nat.reduceLeDiff, Nat.reduceLT, reduceCtorEq, decide_true, decide_false, List.length_map, Int.reduceLT, Int.reduceLE, Int.reduceBEq, Int.reduceAdd, Int.reduceSub, Int.reduceToNat] at hn r2 h0 h1
    delta c79B0
    simp only [go_sem, regs0, ↓reduceIte, Nat.reduceAdd, Nat.reduceEqDiff, Nat.reduceBEq, Nat.reduceBNe, Nat.reduceLeDiff, Nat.reduceLT, reduceCtorEq, decide_true, decide_false, List.length_map, Int.reduceLT, Int.reduceLE, Int.reduceBEq, Int.reduceAdd, Int.reduceSub, Int.reduceToNat, r2, h6, h0, h1, nat_lt, Nat.lt_irrefl]
    rw [List.drop_length] at hF
    first | exact .inl hF.symm | exact .inl ⟨hF.symm, trivial⟩ | exact hF.symm
  · rintro e s ⟨K, ⟨rfl, hn, h1⟩ | ⟨rfl, x, hx, h1, h5⟩⟩
    · have r4 := K.reg 4 rfl
      simp only [go_sem, regs0, ↓reduceIte, Nat.reduceAdd, Nat.reduceEqDiff, Nat.reduceBEq, Nat.reduceBNe, Nat.reduceLeDiff, Nat.reduceLT, reduceCtorEq, decide_true, decide_false, List.length_map, Int.reduceLT, Int.reduceLE, Int.reduceBEq, Int.reduceAdd, Int.reduceSub, Int.reduceToNat] at r4
      simp only [go_sem, regs0, ↓reduceIte, Nat.reduceAdd, Nat.reduceEqDiff, Nat.reduceBEq, Nat.reduceBNe, Nat.reduceLeDiff, Nat.reduceLT, reduceCtorEq, decide_true, decide_false, List.length_map, Int.reduceLT, Int.reduceLE, Int.reduceBEq, Int.reduceAdd, Int.reduceSub, Int.reduceToNat, r4, h1, hn]
      rfl
    · have r4 := K.reg 4 rfl
      simp only [go_sem, regs0, ↓reduceIte, Nat.reduceAdd, Nat.reduceEqDiff, Nat.reduceBEq, Nat.reduceBNe, Nat.reduceLeDiff, Nat.reduceLT, reduceCtorEq, decide_true, decide_false, List.length_map, Int.reduceLT, Int.reduceLE, Int.reduceBEq, Int.reduceAdd, Int.reduceSub, Int.reduceToNat] at r4
      simp only [go_sem, regs0, ↓reduceIte, Nat.reduceAdd, Nat.reduceEqDiff, Nat.reduceBEq, Nat.reduceBNe, Nat.reduceLeDiff, Nat.reduceLT, reduceCtorEq, decide_true, decide_false, List.length_map, Int.reduceLT, Int.reduceLE, Int.reduceBEq, Int.reduceAdd, Int.reduceSub, Int.reduceToNat, r4, h1, h5, hx]
      rfl
end Go.Proofs.Ytnijbejobbajfaa.E
