/- Shaken copy of a longer text: what one law needs. Its conditions: none. -/
import Derived.Test.YtfleilibjdgcjaaZOSpFoC
set_option linter.unusedSimpArgs false
set_option linter.unusedVariables false
set_option linter.unusedSimpArgs false
set_option linter.unusedVariables false
set_option linter.unusedSectionVars false
set_option linter.unnecessarySimpa false
namespace Go.Proofs.Ytfleilibjdgcjaa.O
open Go.AI
theorem fault_swap {f : List Node} {a b : Int} : faultR f [b, a] = faultR f [a, b] := by
  unfold faultR
  rw [show ([b, a].all fun h => decide (isN f h)) = ([a, b].all fun h => decide (isN f h)) by
    simp only [List.all_cons, List.all_nil, Bool.and_true]
    exact Bool.and_comm _ _]
theorem cmp_ne {f : List Node} {a b : Int} (hr : Right f) (ha : isN f a) (hb : isN f b) (he : root f a = root f b) (hne : a ≠ b) : cmpL (way f a) (way f b) ≠ 0 := by
  obtain ⟨h1, h2, h3⟩ := root_mem hr a ha
  have hma : a ∈ allL f (root f a) := (mem_all hr h3).2 h1
  have hmb : b ∈ allL f (root f a) := (mem_root hr ha hb).2 he
  rw [cmp_all hr h3 hma hmb]
  obtain ⟨i, hi, e1, e2⟩ := idx_get hma
  obtain ⟨j, hj, e3, e4⟩ := idx_get hmb
  rw [e2, e4]
  unfold cmpI
  intro h
  split at h
  · cases h
  · split at h
    · cases h
    · have : i = j := by omega
      subst this
      exact hne (e1.symm.trans e3)
theorem comp_turn {f : List Node} {a b : Int} (hr : Right f) (ha : isN f a) (hb : isN f b) :
    (a = b ∧ compR f a b = 0 ∧ compR f b a = 0) ∨ (a ≠ b ∧ ((compR f a b = 35 ∧ compR f b a = 37) ∨ (compR f a b = 37 ∧ compR f b a = 35) ∨ (compR f a b = 10 ∧ compR f b a = 20) ∨ (compR f a b = 20 ∧ compR f b a = 10) ∨ (compR f a b = 2 ∧ compR f b a = 4) ∨ (compR f a b = 4 ∧ compR f b a = 2))) := by
  by_cases e : a = b
  · left
    subst e
    unfold compR
    rw [if_pos rfl]
    exact ⟨rfl, rfl, rfl⟩
  · right
    refine ⟨e, ?_⟩
    have e' : ¬b = a := fun h => e h.symm
    unfold compR
    rw [if_neg e, if_neg e']
    by_cases hro : root f a = root f b
    · have c1 : cmpR f a b = (cmpL (way f a) (way f b), true) := by unfold cmpR; rw [if_pos hro]
      have c2 : cmpR f b a = (cmpL (way f b) (way f a), true) := by unfold cmpR; rw [if_pos hro.symm]
      rw [c1, c2]
      simp only [Bool.true_eq_false, if_false]
      by_cases k1 : b ∈ anc f a
      · have k2 : a ∉ anc f b := fun h => e (anc_anti hr h k1)
        rw [if_pos k1, if_neg k2, if_pos k1]
        exact .inr (.inr (.inl ⟨rfl, rfl⟩))
      · rw [if_neg k1]
        by_cases k2 : a ∈ anc f b
        · rw [if_pos k2, if_pos k2]
          exact .inr (.inr (.inr (.inl ⟨rfl, rfl⟩)))
        · rw [if_neg k2, if_neg k2, if_neg k1, cmpL_swap (way f a) (way f b)]
          have hne := cmp_ne hr ha hb hro e
          by_cases k3 : 0 < cmpL (way f a) (way f b)
          · rw [if_pos k3, if_neg (by omega)]
            exact .inr (.inr (.inr (.inr (.inl ⟨rfl, rfl⟩))))
          · rw [if_neg k3, if_pos (by omega)]
            exact .inr (.inr (.inr (.inr (.inr ⟨rfl, rfl⟩))))
    · have c1 : cmpR f a b = (0, false) := by unfold cmpR; rw [if_neg hro]
      have c2 : cmpR f b a = (0, false) := by unfold cmpR; rw [if_neg (fun h => hro h.symm)]
      rw [c1, c2]
      simp only [if_true]
      by_cases hl : b < a
      · rw [if_pos hl, if_neg (by omega)]; exact .inl ⟨rfl, rfl⟩
      · rw [if_neg hl, if_pos (by omega)]; exact .inr (.inl ⟨rfl, rfl⟩)
theorem lawOrderTurned (f : Forest) (a b : Int) (_ : Forest.ok f) (_ : IntKind.i64.min ≤ a ∧ a ≤ IntKind.i64.max) (_ : IntKind.i64.min ≤ b ∧ b ≤ IntKind.i64.max) (hb : D.bulkAll [eForest f, .int .i64 a, .int .i64 b] ≤ 1048576) : pc prog 3 [eForest f, .int .i64 a, .int .i64 b] = some (.bool true) := by
  have hf := fit_bulk hb
  refine ok3 f a b _ ?_
  unfold P3
  rw [begins_true, dec_one (e := D.bool), Option.bind_some, if_neg (by simp), compare_prg f a b hf, compare_prg f b a hf, dec_one (e := eT2 (D.int .i64) (D.int .i64)), dec_one (e := eT2 (D.int .i64) (D.int .i64)), Option.bind_some, Option.bind_some, fault_swap (a := a) (b := b)]
  by_cases h0 : faultR f.nodes.l [a, b] = 0
  · obtain ⟨hr, hab⟩ := fault_zero.1 h0
    obtain ⟨ha, hb⟩ := two_mem.1 hab
    rw [if_pos h0, if_pos h0]
    dsimp only
    rcases comp_turn hr ha hb with ⟨e, h1, h2⟩ | ⟨e, h⟩
    · rw [h1, h2, show (a == b) = true by simpa using e]; rfl
    · have hab : (a == b) = false := by simpa using e
      rw [hab]
      rcases h with ⟨h1, h2⟩ | ⟨h1, h2⟩ | ⟨h1, h2⟩ | ⟨h1, h2⟩ | ⟨h1, h2⟩ | ⟨h1, h2⟩ <;> (rw [h1, h2]; rfl)
  · rw [if_neg h0, if_neg h0, if_pos (by simp [h0])]
    simp
end Go.Proofs.Ytfleilibjdgcjaa.O
