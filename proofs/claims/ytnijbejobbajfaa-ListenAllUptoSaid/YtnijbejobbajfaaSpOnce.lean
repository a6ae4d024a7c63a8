/- The law ListenOnce. Its conditions: none. -/
import Derived.Test.YtnijbejobbajfaaSpAdds
set_option linter.unusedSimpArgs false
set_option linter.unusedVariables false
set_option linter.unusedSectionVars false
set_option linter.unnecessarySimpa false
namespace Go.Proofs.Ytnijbejobbajfaa.L
open Go.AI
theorem check_chk {l : Listeners} (hc : check l = 0) : (l.list.l = [] ∧ l.next = 0) ∨ (l.list.l.length ≤ 1024 ∧ 1 ≤ l.next ∧ l.next ≤ 1099511627776 ∧ chk l.next [] 0 l.list.l = true) := by
  unfold check at hc
  split at hc
  · rename_i h; left; exact ⟨List.length_eq_zero_iff.1 h.1, h.2⟩
  · split at hc
    · cases hc
    · right
      split at hc
      · exact ⟨by omega, by omega, by omega, by assumption⟩
      · cases hc
theorem next_two {m : Bool} {l : Listeners} : next ⟨⟨m, l.list.l⟩, next l⟩ = next l := by
  unfold next
  split
  · split <;> simp_all
  · rfl
theorem next_ge {l : Listeners} (hc : check l = 0) : 1 ≤ next l := by
  have := max_next hc; omega
theorem check_more {m : Bool} {l : Listeners} {xs : List Listener} {k : Int} (h1 : xs.length ≤ 1024) (h2 : 1 ≤ k) (h3 : k ≤ 1099511627776) (h4 : chk k [] 0 xs = true) : check ⟨⟨m, xs⟩, k⟩ = 0 := by
  unfold check
  rw [if_neg (by simp only; omega), if_neg (by simp only; omega), if_pos h4]
theorem check_nexts {m : Bool} {l : Listeners} (hc : check l = 0) : check ⟨⟨m, l.list.l⟩, next l⟩ = 0 := by
  have hn := next_ge hc
  rcases check_chk hc with ⟨h1, h2⟩ | ⟨h1, h2, h3, h4⟩
  · have : next l = 1 := by simp [next, h1, h2]
    rw [this, h1]
    exact check_more (l := l) (by simp) (by omega) (by omega) rfl
  · have : next l = l.next := by have := max_next hc; omega
    rw [this]
    exact check_more (l := l) h1 h2 h3 h4
theorem chk_app {nx nx' : Int} (hnx : nx ≤ nx') (x : Listener) : ∀ (l pre : List Listener) (last : Int), chk nx pre last l = true → (∀ last', (last' = last ∨ ∃ y ∈ l, last' = y.id) → okL last' nx' (pre ++ l) x = true) → chk nx' pre last (l ++ [x]) = true
  | [], pre, last, _, hx => by
    have := hx last (.inl rfl)
    simp only [List.append_nil] at this
    simp only [List.nil_append, chk, this, Bool.and_self]
  | y :: r, pre, last, h, hx => by
    simp only [chk, Bool.and_eq_true] at h
    simp only [List.cons_append, chk, Bool.and_eq_true]
    refine ⟨?_, chk_app hnx x r _ _ h.2 fun last' hl => ?_⟩
    · have ho := h.1
      simp only [okL, Bool.and_eq_true, decide_eq_true_eq] at ho ⊢
      obtain ⟨⟨⟨⟨⟨⟨o1, o2⟩, o3⟩, o4⟩, o5⟩, o6⟩, o7⟩ := ho
      exact ⟨⟨⟨⟨⟨⟨o1, by omega⟩, o3⟩, o4⟩, o5⟩, o6⟩, o7⟩
    · have := hx last' (by rcases hl with rfl | ⟨z, hz, rfl⟩; exact .inr ⟨y, by simp, rfl⟩; exact .inr ⟨z, by simp [hz], rfl⟩)
      rwa [List.append_assoc]
theorem alike_refl (x : Listener) : alike x x = true := by simp [alike]
theorem alike_addX {l : Listeners} {x y : Listener} {root : Bool} : alike (addX l x root) y = alike x y := rfl
theorem check_added {m : Bool} {l : Listeners} {x : Listener} {root : Bool} (hc : check l = 0) (hp : 0 ≤ x.passive) (h1 : ¬ 1024 < x.type_.length) (h2 : ¬ (x.node < 1 ∨ 3 ≤ x.passive)) (h3 : ¬ (false = true ∨ x.callback = 0 ∨ l.list.l.any (alike x) = true)) (h4 : ¬ (1024 ≤ l.list.l.length ∨ 1099511627776 ≤ next l)) :
    check ⟨⟨m, l.list.l ++ [addX l x root]⟩, next l + 1⟩ = 0 := by
  have hn := next_ge hc
  have hnext : ∀ y ∈ l.list.l, y.id < next l := fun y hy => by
    rcases check_chk hc with ⟨g1, _⟩ | ⟨_, _, _, g4⟩
    · rw [g1] at hy; cases hy
    · have := (chk_all _ _ _ g4 y hy).2.1
      have := max_next hc; omega
  refine check_more (l := l) (by simp; omega) (by omega) (by omega) ?_
  refine chk_app (nx := next l) (by omega) _ l.list.l [] 0 ?_ fun last' hl => ?_
  · rcases check_chk hc with ⟨g1, g2⟩ | ⟨g1, g2, g3, g4⟩
    · rw [g1]; rfl
    · rw [show next l = l.next by have := max_next hc; omega]; exact g4
  · have hl' : last' < next l := by
      rcases hl with rfl | ⟨y, hy, rfl⟩
      · omega
      · exact hnext y hy
    have hf : find (addX l x root) ([] ++ l.list.l) 0 < 0 := by
      have : ¬ l.list.l.any (alike (addX l x root)) = true := by
        simp only [show alike (addX l x root) = alike x from rfl]
        exact fun hh => h3 (.inr (.inr hh))
      have hfa := (find_any (addX l x root) l.list.l 0 (by omega)).1
      simp only [List.nil_append]
      rcases Int.lt_or_le (find (addX l x root) l.list.l 0) 0 with hh | hh
      · exact hh
      · exact absurd (hfa hh) this
    have hcb : ¬ x.callback = 0 := fun hh => h3 (.inr (.inl hh))
    have hpv : (addX l x root).passive = 1 ∨ (addX l x root).passive = 2 := by
      simp only [addX]
      split
      · unfold passive; split <;> simp
      · omega
    simp only [okL, Bool.and_eq_true, Bool.or_eq_true, decide_eq_true_eq, beq_iff_eq, bne_iff_ne, ne_eq]
    exact ⟨⟨⟨⟨⟨⟨hl', by show next l < next l + 1; omega⟩, hf⟩, hcb⟩, by show 1 ≤ x.node; omega⟩, by show x.type_.length ≤ 1024; omega⟩, hpv⟩
theorem kept_added {l : Listeners} {x : Listener} {root : Bool} (h3 : ¬ l.list.l.any (alike x) = true) (s : Int) : keptS (remStep x.node x.type_ x.callback x.capture) s (l.list.l ++ [addX l x root]) = (l.list.l, next l) := by
  have hlike : likeP x.node x.type_ x.callback x.capture (addX l x root) = true := by simp [likeP, addX]
  have hno : ∀ z ∈ l.list.l, likeP x.node x.type_ x.callback x.capture z = false := fun z hz => by
    rcases hb : likeP x.node x.type_ x.callback x.capture z with _ | _
    · rfl
    · refine absurd (List.any_eq_true.2 ⟨z, hz, ?_⟩) h3
      exact like_two hb (by simp [likeP])
  have key : ∀ (r : List Listener) (s : Int), (∀ z ∈ r, likeP x.node x.type_ x.callback x.capture z = false) → keptS (remStep x.node x.type_ x.callback x.capture) s (r ++ [addX l x root]) = (r, next l) := by
    intro r
    induction r with
    | nil =>
      intro s _
      simp only [List.nil_append, keptS, remStep, hlike, if_true, Bool.false_eq_true, if_false]
      rfl
    | cons y r ih =>
      intro s h
      have hy := h y (by simp)
      have hr := ih s fun z hz => h z (by simp [hz])
      simp only [List.cons_append, keptS, remStep, hy, Bool.false_eq_true, if_false, if_true]
      rw [show keptS (remStep x.node x.type_ x.callback x.capture) s (r ++ [addX l x root]) = (r, next l) from hr]
  exact key _ s hno
theorem add_cases (n : Bool) (l : Listeners) (x : Listener) (root aborted : Bool) (hc : check l = 0) : (∃ e, ¬ e = 0 ∧ add n l x root aborted = (.zero, 0, e)) ∨
    (¬ 1024 < x.type_.length ∧ ¬ (x.node < 1 ∨ 3 ≤ x.passive) ∧ (aborted = true ∨ x.callback = 0 ∨ l.list.l.any (alike x) = true) ∧ add n l x root aborted = (⟨⟨n, l.list.l⟩, next l⟩, 0, 0)) ∨
    (¬ 1024 < x.type_.length ∧ ¬ (x.node < 1 ∨ 3 ≤ x.passive) ∧ ¬ (aborted = true ∨ x.callback = 0 ∨ l.list.l.any (alike x) = true) ∧ ¬ (1024 ≤ l.list.l.length ∨ 1099511627776 ≤ next l) ∧ add n l x root aborted = (⟨⟨false, l.list.l ++ [addX l x root]⟩, next l + 1⟩, next l, 0)) := by
  by_cases h1 : 1024 < x.type_.length
  · exact .inl ⟨4, by decide, add_long hc h1⟩
  by_cases h2 : x.node < 1 ∨ 3 ≤ x.passive
  · exact .inl ⟨2, by decide, add_range hc h1 h2⟩
  by_cases h3 : aborted = true ∨ x.callback = 0 ∨ l.list.l.any (alike x) = true
  · exact .inr (.inl ⟨h1, h2, h3, add_none hc h1 h2 h3⟩)
  by_cases h4 : 1024 ≤ l.list.l.length ∨ 1099511627776 ≤ next l
  · exact .inl ⟨3, by decide, add_many hc h1 h2 h3 h4⟩
  · exact .inr (.inr ⟨h1, h2, h3, h4, add_more hc h1 h2 h3 h4⟩)
set_option maxRecDepth 100000 in
theorem law_once (l : Listeners) (x : Listener) (root : Bool) (hp : 0 ≤ x.passive) (hl : l.list.l.length ≤ 2 ^ 31) : pc prog 5 [eListeners l, eListener x, .bool root] = some (.bool true) := by
  have c1 := add_prg l x root false
  refine pc_of (fn := c5) rfl rfl ?_
  delta c5
  by_cases hc : check l = 0
  · have hn := next_ge hc
    rcases add_cases l.list.l.isEmpty l x root false hc with ⟨e, he, h⟩ | ⟨h1, h2, h3, h⟩ | ⟨h1, h2, h3, h4, h⟩
    · rw [h] at c1
      have hz : eListeners .zero = .agg [.list true [], .int .i64 0] := rfl
      have heb : (e == 0) = false := by simpa using he
      simp only [go_sem, regs0, ↓reduceIte, Nat.reduceAdd, Nat.reduceEqDiff, Nat.reduceBEq, Nat.reduceBNe, Nat.reduceLeDiff, Nat.reduceLT, reduceCtorEq, decide_true, decide_false, List.length_map, Int.reduceLT, Int.reduceLE, Int.reduceBEq, Int.reduceAdd, Int.reduceSub, Int.reduceToNat, c1, hz, lives_true, heb, Bool.not_true, Bool.not_false, beq_self_eq_true]
      repeat' (first | (refine WGuard_splitN (fun hc => ?_) (fun hc => ?_) <;> (try simp only [go_sem, regs0, ↓reduceIte, Nat.reduceAdd, Nat.reduceEqDiff, Nat.reduceBEq, Nat.reduceBNe, Nat.reduceLeDiff, Nat.reduceLT, reduceCtorEq, decide_true, decide_false, List.length_map, Int.reduceLT, Int.reduceLE, Int.reduceBEq, Int.reduceAdd, Int.reduceSub, Int.reduceToNat, hc, c1, hz, lives_true, heb, Bool.not_true, Bool.not_false, beq_self_eq_true])) | (refine WBr_splitN (fun hc => ?_) (fun hc => ?_) <;> (try simp only [go_sem, regs0, ↓reduceIte, Nat.reduceAdd, Nat.reduceEqDiff, Nat.reduceBEq, Nat.reduceBNe, Nat.reduceLeDiff, Nat.reduceLT, reduceCtorEq, decide_true, decide_false, List.length_map, Int.reduceLT, Int.reduceLE, Int.reduceBEq, Int.reduceAdd, Int.reduceSub, Int.reduceToNat, hc, c1, hz, lives_true, heb, Bool.not_true, Bool.not_false, beq_self_eq_true])) | (refine WGuard_split (fun hc => ?_) (fun hc => ?_) <;> (try simp only [go_sem, regs0, ↓reduceIte, Nat.reduceAdd, Nat.reduceEqDiff, Nat.reduceBEq, Nat.reduceBNe, Nat.reduceLeDiff, Nat.reduceLT, reduceCtorEq, decide_true, decide_false, List.length_map, Int.reduceLT, Int.reduceLE, Int.reduceBEq, Int.reduceAdd, Int.reduceSub, Int.reduceToNat, hc, c1, hz, lives_true, heb, Bool.not_true, Bool.not_false, beq_self_eq_true])) | (refine WBr_split (fun hc => ?_) (fun hc => ?_) <;> (try simp only [go_sem, regs0, ↓reduceIte, Nat.reduceAdd, Nat.reduceEqDiff, Nat.reduceBEq, Nat.reduceBNe, Nat.reduceLeDiff, Nat.reduceLT, reduceCtorEq, decide_true, decide_false, List.length_map, Int.reduceLT, Int.reduceLE, Int.reduceBEq, Int.reduceAdd, Int.reduceSub, Int.reduceToNat, hc, c1, hz, lives_true, heb, Bool.not_true, Bool.not_false, beq_self_eq_true])))
      simp at hc
    · rw [h] at c1
      have c2 := add_prg ⟨⟨l.list.l.isEmpty, l.list.l⟩, next l⟩ x root false
      rw [add_none (check_nexts (m := l.list.l.isEmpty) hc) h1 h2 h3, next_two] at c2
      have c3 := check_spec ⟨⟨l.list.l.isEmpty, l.list.l⟩, next l⟩
      rw [check_nexts hc] at c3
      have c4 := remove_spec ⟨⟨l.list.l.isEmpty, l.list.l⟩, next l⟩ x.node x.type_ x.callback x.capture
      have c5 : (remove ⟨⟨l.list.l.isEmpty, l.list.l⟩, next l⟩ x.node x.type_ x.callback x.capture).2.2 = 0 := by rw [remove, if_pos (check_nexts (m := l.list.l.isEmpty) hc)]
      have s1 := same_eq ⟨⟨l.list.l.isEmpty, l.list.l⟩, next l⟩ ⟨⟨l.list.l.isEmpty, l.list.l⟩, next l⟩ rfl rfl (show l.list.l.length ≤ 2 ^ 47 by omega)
      simp only [go_sem, regs0, ↓reduceIte, Nat.reduceAdd, Nat.reduceEqDiff, Nat.reduceBEq, Nat.reduceBNe, Nat.reduceLeDiff, Nat.reduceLT, reduceCtorEq, decide_true, decide_false, List.length_map, Int.reduceLT, Int.reduceLE, Int.reduceBEq, Int.reduceAdd, Int.reduceSub, Int.reduceToNat, c1, c2, c3, c4, c5, s1, lives_true, Bool.not_true, Bool.not_false, beq_self_eq_true]
      repeat' (first | (refine WGuard_splitN (fun hc => ?_) (fun hc => ?_) <;> (try simp only [go_sem, regs0, ↓reduceIte, Nat.reduceAdd, Nat.reduceEqDiff, Nat.reduceBEq, Nat.reduceBNe, Nat.reduceLeDiff, Nat.reduceLT, reduceCtorEq, decide_true, decide_false, List.length_map, Int.reduceLT, Int.reduceLE, Int.reduceBEq, Int.reduceAdd, Int.reduceSub, Int.reduceToNat, hc, c1, c2, c3, c4, c5, s1, lives_true, Bool.not_true, Bool.not_false, beq_self_eq_true])) | (refine WBr_splitN (fun hc => ?_) (fun hc => ?_) <;> (try simp only [go_sem, regs0, ↓reduceIte, Nat.reduceAdd, Nat.reduceEqDiff, Nat.reduceBEq, Nat.reduceBNe, Nat.reduceLeDiff, Nat.reduceLT, reduceCtorEq, decide_true, decide_false, List.length_map, Int.reduceLT, Int.reduceLE, Int.reduceBEq, Int.reduceAdd, Int.reduceSub, Int.reduceToNat, hc, c1, c2, c3, c4, c5, s1, lives_true, Bool.not_true, Bool.not_false, beq_self_eq_true])) | (refine WGuard_split (fun hc => ?_) (fun hc => ?_) <;> (try simp only [go_sem, regs0, ↓reduceIte, Nat.reduceAdd, Nat.reduceEqDiff, Nat.reduceBEq, Nat.reduceBNe, Nat.reduceLeDiff, Nat.reduceLT, reduceCtorEq, decide_true, decide_false, List.length_map, Int.reduceLT, Int.reduceLE, Int.reduceBEq, Int.reduceAdd, Int.reduceSub, Int.reduceToNat, hc, c1, c2, c3, c4, c5, s1, lives_true, Bool.not_true, Bool.not_false, beq_self_eq_true])) | (refine WBr_split (fun hc => ?_) (fun hc => ?_) <;> (try simp only [go_sem, regs0, ↓reduceIte, Nat.reduceAdd, Nat.reduceEqDiff, Nat.reduceBEq, Nat.reduceBNe, Nat.reduceLeDiff, Nat.reduceLT, reduceCtorEq, decide_true, decide_false, List.length_map, Int.reduceLT, Int.reduceLE, Int.reduceBEq, Int.reduceAdd, Int.reduceSub, Int.reduceToNat, hc, c1, c2, c3, c4, c5, s1, lives_true, Bool.not_true, Bool.not_false, beq_self_eq_true])))
      all_goals trace_state
    · rw [h] at c1
      have c2 := add_prg ⟨⟨false, l.list.l ++ [addX l x root]⟩, next l + 1⟩ x root false
      have hca : check ⟨⟨false, l.list.l ++ [addX l x root]⟩, next l + 1⟩ = 0 := check_added hc hp h1 h2 h3 h4
      rw [add_none hca h1 h2 (.inr (.inr (by simp only [List.any_append, List.any_cons, List.any_nil, show alike x (addX l x root) = true from alike_refl x, Bool.true_or, Bool.or_true])))] at c2
      have hnn : next ⟨⟨false, l.list.l ++ [addX l x root]⟩, next l + 1⟩ = next l + 1 := by
        unfold next
        rw [if_neg (by simp)]
      rw [hnn] at c2
      have c3 := check_spec ⟨⟨false, l.list.l ++ [addX l x root]⟩, next l + 1⟩
      rw [hca] at c3
      have c4 := remove_spec ⟨⟨false, l.list.l ++ [addX l x root]⟩, next l + 1⟩ x.node x.type_ x.callback x.capture
      have c5 : remove ⟨⟨false, l.list.l ++ [addX l x root]⟩, next l + 1⟩ x.node x.type_ x.callback x.capture = (⟨some_ l.list.l, next l + 1⟩, next l, 0) := by
        rw [remove, if_pos hca, hnn]
        simp only [kept_added (fun hh => h3 (.inr (.inr hh)))]
      rw [c5] at c4
      have hemp : (l.list.l ++ [addX l x root]).isEmpty = false := by simp
      have s1 := same_eq ⟨⟨false, l.list.l ++ [addX l x root]⟩, next l + 1⟩ ⟨⟨false, l.list.l ++ [addX l x root]⟩, next l + 1⟩ rfl rfl (show (l.list.l ++ [addX l x root]).length ≤ 2 ^ 47 by simp; omega)
      have s2 := same_eq ⟨some_ l.list.l, l.next⟩ l rfl rfl (by omega)
      have hn0 : (next l == 0) = false := by simp; omega
      simp only [go_sem, regs0, ↓reduceIte, Nat.reduceAdd, Nat.reduceEqDiff, Nat.reduceBEq, Nat.reduceBNe, Nat.reduceLeDiff, Nat.reduceLT, reduceCtorEq, decide_true, decide_false, List.length_map, Int.reduceLT, Int.reduceLE, Int.reduceBEq, Int.reduceAdd, Int.reduceSub, Int.reduceToNat, c1, c2, c3, c4, s1, hemp, hn0, lives_true, Bool.not_true, Bool.not_false, beq_self_eq_true]
      repeat' (first | (refine WGuard_splitN (fun hc => ?_) (fun hc => ?_) <;> (try simp only [go_sem, regs0, ↓reduceIte, Nat.reduceAdd, Nat.reduceEqDiff, Nat.reduceBEq, Nat.reduceBNe, Nat.reduceLeDiff, Nat.reduceLT, reduceCtorEq, decide_true, decide_false, List.length_map, Int.reduceLT, Int.reduceLE, Int.reduceBEq, Int.reduceAdd, Int.reduceSub, Int.reduceToNat, hc, c1, c2, c3, c4, s1, hemp, hn0, lives_true, Bool.not_true, Bool.not_false, beq_self_eq_true])) | (refine WBr_splitN (fun hc => ?_) (fun hc => ?_) <;> (try simp only [go_sem, regs0, ↓reduceIte, Nat.reduceAdd, Nat.reduceEqDiff, Nat.reduceBEq, Nat.reduceBNe, Nat.reduceLeDiff, Nat.reduceLT, reduceCtorEq, decide_true, decide_false, List.length_map, Int.reduceLT, Int.reduceLE, Int.reduceBEq, Int.reduceAdd, Int.reduceSub, Int.reduceToNat, hc, c1, c2, c3, c4, s1, hemp, hn0, lives_true, Bool.not_true, Bool.not_false, beq_self_eq_true])) | (refine WGuard_split (fun hc => ?_) (fun hc => ?_) <;> (try simp only [go_sem, regs0, ↓reduceIte, Nat.reduceAdd, Nat.reduceEqDiff, Nat.reduceBEq, Nat.reduceBNe, Nat.reduceLeDiff, Nat.reduceLT, reduceCtorEq, decide_true, decide_false, List.length_map, Int.reduceLT, Int.reduceLE, Int.reduceBEq, Int.reduceAdd, Int.reduceSub, Int.reduceToNat, hc, c1, c2, c3, c4, s1, hemp, hn0, lives_true, Bool.not_true, Bool.not_false, beq_self_eq_true])) | (refine WBr_split (fun hc => ?_) (fun hc => ?_) <;> (try simp only [go_sem, regs0, ↓reduceIte, Nat.reduceAdd, Nat.reduceEqDiff, Nat.reduceBEq, Nat.reduceBNe, Nat.reduceLeDiff, Nat.reduceLT, reduceCtorEq, decide_true, decide_false, List.length_map, Int.reduceLT, Int.reduceLE, Int.reduceBEq, Int.reduceAdd, Int.reduceSub, Int.reduceToNat, hc, c1, c2, c3, c4, s1, hemp, hn0, lives_true, Bool.not_true, Bool.not_false, beq_self_eq_true])))
      have hids : ∀ (i : Nat) (hi : i < l.list.l.length), (l.list.l[i]).id < next l := fun i hi => by
        rcases check_chk hc with ⟨g1, _⟩ | ⟨_, _, _, g4⟩
        · rw [g1] at hi; cases hi
        · have := (chk_all _ _ _ g4 _ (List.getElem_mem hi)).2.1
          have := max_next hc; omega
      clear c1 c2 c3 c4 s1
      refine (Wp.with_kept (Wp.rounds (Q := fun e s => e = .exit 0 ∧ s.h.get 0 = some (.els 2 [.d (eListeners l)] 0) ∧ s.h.get 62 = some (.els 2 [.d (eListeners ⟨some_ l.list.l, next l + 1⟩)] 0)) l.list.l.length (fun s0 i s => s.r 97 = .d (.int .i64 i) ∧ s.h.get 0 = s0.h.get 0 ∧ s.h.get 62 = s0.h.get 62) ?_ ?_ ?_)).mono ?_
      · exact ⟨by simp [go_sem, regs0, ↓reduceIte, Nat.reduceAdd, Nat.reduceEqDiff, Nat.reduceBEq, Nat.reduceBNe, Nat.reduceLeDiff, Nat.reduceLT, reduceCtorEq, decide_true, decide_false, List.length_map, Int.reduceLT, Int.reduceLE, Int.reduceBEq, Int.reduceAdd, Int.reduceSub, Int.reduceToNat], rfl, rfl⟩
      · rintro i s hi hK ⟨h97, h0, h62⟩
        have r8 := hK.reg 8 rfl; have r95 := hK.reg 95 rfl; have r96 := hK.reg 96 rfl; have hn := hK.next; clear hK; simp only [go_sem, regs0, ↓reduceIte, Nat.reduceAdd, Nat.reduceEqDiff, Nat.reduceBEq, Nat.reduceBNe, Nat.reduceLeDiff, Nat.reduceLT, reduceCtorEq, decide_true, decide_false, List.length_map, Int.reduceLT, Int.reduceLE, Int.reduceBEq, Int.reduceAdd, Int.reduceSub, Int.reduceToNat] at hn r8 r95 r96 h0 h62
        have hw := wrap_nat (show i < 2 ^ 62 by omega)
        have hid := hids i hi
        have hge : decide (next l ≤ (l.list.l[i]).id) = false := by simp; omega
        delta c5B0
        simp only [go_sem, regs0, ↓reduceIte, Nat.reduceAdd, Nat.reduceEqDiff, Nat.reduceBEq, Nat.reduceBNe, Nat.reduceLeDiff, Nat.reduceLT, reduceCtorEq, decide_true, decide_false, List.length_map, Int.reduceLT, Int.reduceLE, Int.reduceBEq, Int.reduceAdd, Int.reduceSub, Int.reduceToNat, r8, r95, r96, h97, h0, h62, nat_lt, hi, nat_pos, Int.toNat_natCast, map_get hi, low_ne' hn, hge, hw]
      · rintro s hK ⟨h97, h0, h62⟩
        have r96 := hK.reg 96 rfl; have hn := hK.next; clear hK; simp only [go_sem, regs0, ↓reduceIte, Nat.reduceAdd, Nat.reduceEqDiff, Nat.reduceBEq, Nat.reduceBNe, Nat.reduceLeDiff, Nat.reduceLT, reduceCtorEq, decide_true, decide_false, List.length_map, Int.reduceLT, Int.reduceLE, Int.reduceBEq, Int.reduceAdd, Int.reduceSub, Int.reduceToNat] at hn r96 h0 h62
        delta c5B0
        simp only [go_sem, regs0, ↓reduceIte, Nat.reduceAdd, Nat.reduceEqDiff, Nat.reduceBEq, Nat.reduceBNe, Nat.reduceLeDiff, Nat.reduceLT, reduceCtorEq, decide_true, decide_false, List.length_map, Int.reduceLT, Int.reduceLE, Int.reduceBEq, Int.reduceAdd, Int.reduceSub, Int.reduceToNat, r96, h97, h0, h62, nat_lt, Nat.lt_irrefl]
      · rintro e s ⟨K, rfl, h0, h62⟩
        have r3 := K.reg 3 rfl
        have r8 := K.reg 8 rfl
        have r13 := K.reg 13 rfl
        have r14 := K.reg 14 rfl
        simp only [go_sem, regs0, ↓reduceIte, Nat.reduceAdd, Nat.reduceEqDiff, Nat.reduceBEq, Nat.reduceBNe, Nat.reduceLeDiff, Nat.reduceLT, reduceCtorEq, decide_true, decide_false, List.length_map, Int.reduceLT, Int.reduceLE, Int.reduceBEq, Int.reduceAdd, Int.reduceSub, Int.reduceToNat] at r3 r8 r13 r14
        simp only [go_sem, regs0, ↓reduceIte, Nat.reduceAdd, Nat.reduceEqDiff, Nat.reduceBEq, Nat.reduceBNe, Nat.reduceLeDiff, Nat.reduceLT, reduceCtorEq, decide_true, decide_false, List.length_map, Int.reduceLT, Int.reduceLE, Int.reduceBEq, Int.reduceAdd, Int.reduceSub, Int.reduceToNat, r3, r8, r13, r14, h0, h62, s2, beq_self_eq_true]
        repeat' (first | (refine WGuard_splitN (fun hc => ?_) (fun hc => ?_) <;> (try simp only [go_sem, regs0, ↓reduceIte, Nat.reduceAdd, Nat.reduceEqDiff, Nat.reduceBEq, Nat.reduceBNe, Nat.reduceLeDiff, Nat.reduceLT, reduceCtorEq, decide_true, decide_false, List.length_map, Int.reduceLT, Int.reduceLE, Int.reduceBEq, Int.reduceAdd, Int.reduceSub, Int.reduceToNat, hc, r3, r8, r13, r14, h0, h62, s2, beq_self_eq_true])) | (refine WBr_splitN (fun hc => ?_) (fun hc => ?_) <;> (try simp only [go_sem, regs0, ↓reduceIte, Nat.reduceAdd, Nat.reduceEqDiff, Nat.reduceBEq, Nat.reduceBNe, Nat.reduceLeDiff, Nat.reduceLT, reduceCtorEq, decide_true, decide_false, List.length_map, Int.reduceLT, Int.reduceLE, Int.reduceBEq, Int.reduceAdd, Int.reduceSub, Int.reduceToNat, hc, r3, r8, r13, r14, h0, h62, s2, beq_self_eq_true])) | (refine WGuard_split (fun hc => ?_) (fun hc => ?_) <;> (try simp only [go_sem, regs0, ↓reduceIte, Nat.reduceAdd, Nat.reduceEqDiff, Nat.reduceBEq, Nat.reduceBNe, Nat.reduceLeDiff, Nat.reduceLT, reduceCtorEq, decide_true, decide_false, List.length_map, Int.reduceLT, Int.reduceLE, Int.reduceBEq, Int.reduceAdd, Int.reduceSub, Int.reduceToNat, hc, r3, r8, r13, r14, h0, h62, s2, beq_self_eq_true])) | (refine WBr_split (fun hc => ?_) (fun hc => ?_) <;> (try simp only [go_sem, regs0, ↓reduceIte, Nat.reduceAdd, Nat.reduceEqDiff, Nat.reduceBEq, Nat.reduceBNe, Nat.reduceLeDiff, Nat.reduceLT, reduceCtorEq, decide_true, decide_false, List.length_map, Int.reduceLT, Int.reduceLE, Int.reduceBEq, Int.reduceAdd, Int.reduceSub, Int.reduceToNat, hc, r3, r8, r13, r14, h0, h62, s2, beq_self_eq_true])))
  · have h : add l.list.l.isEmpty l x root false = (.zero, 0, check l) := by rw [add, if_pos hc]
    rw [h] at c1
    have hz : eListeners .zero = .agg [.list true [], .int .i64 0] := rfl
    have heb : (check l == 0) = false := by simpa using hc
    simp only [go_sem, regs0, ↓reduceIte, Nat.reduceAdd, Nat.reduceEqDiff, Nat.reduceBEq, Nat.reduceBNe, Nat.reduceLeDiff, Nat.reduceLT, reduceCtorEq, decide_true, decide_false, List.length_map, Int.reduceLT, Int.reduceLE, Int.reduceBEq, Int.reduceAdd, Int.reduceSub, Int.reduceToNat, c1, hz, lives_true, heb, Bool.not_true, Bool.not_false, beq_self_eq_true]
    repeat' (first | (refine WGuard_splitN (fun hc => ?_) (fun hc => ?_) <;> (try simp only [go_sem, regs0, ↓reduceIte, Nat.reduceAdd, Nat.reduceEqDiff, Nat.reduceBEq, Nat.reduceBNe, Nat.reduceLeDiff, Nat.reduceLT, reduceCtorEq, decide_true, decide_false, List.length_map, Int.reduceLT, Int.reduceLE, Int.reduceBEq, Int.reduceAdd, Int.reduceSub, Int.reduceToNat, hc, c1, hz, lives_true, heb, Bool.not_true, Bool.not_false, beq_self_eq_true])) | (refine WBr_splitN (fun hc => ?_) (fun hc => ?_) <;> (try simp only [go_sem, regs0, ↓reduceIte, Nat.reduceAdd, Nat.reduceEqDiff, Nat.reduceBEq, Nat.reduceBNe, Nat.reduceLeDiff, Nat.reduceLT, reduceCtorEq, decide_true, decide_false, List.length_map, Int.reduceLT, Int.reduceLE, Int.reduceBEq, Int.reduceAdd, Int.reduceSub, Int.reduceToNat, hc, c1, hz, lives_true, heb, Bool.not_true, Bool.not_false, beq_self_eq_true])) | (refine WGuard_split (fun hc => ?_) (fun hc => ?_) <;> (try simp only [go_sem, regs0, ↓reduceIte, Nat.reduceAdd, Nat.reduceEqDiff, Nat.reduceBEq, Nat.reduceBNe, Nat.reduceLeDiff, Nat.reduceLT, reduceCtorEq, decide_true, decide_false, List.length_map, Int.reduceLT, Int.reduceLE, Int.reduceBEq, Int.reduceAdd, Int.reduceSub, Int.reduceToNat, hc, c1, hz, lives_true, heb, Bool.not_true, Bool.not_false, beq_self_eq_true])) | (refine WBr_split (fun hc => ?_) (fun hc => ?_) <;> (try simp only [go_sem, regs0, ↓reduceIte, Nat.reduceAdd, Nat.reduceEqDiff, Nat.reduceBEq, Nat.reduceBNe, Nat.reduceLeDiff, Nat.reduceLT, reduceCtorEq, decide_true, decide_false, List.length_map, Int.reduceLT, Int.reduceLE, Int.reduceBEq, Int.reduceAdd, Int.reduceSub, Int.reduceToNat, hc, c1, hz, lives_true, heb, Bool.not_true, Bool.not_false, beq_self_eq_true])))
    simp at hc
theorem lawListenOnce (l : Listeners) (x : Listener) (root : Bool) (_ : Listeners.ok l) (o : Listener.ok x) (_ : True) (hb : D.bulkAll [eListeners l, eListener x, .bool root] ≤ 1048576) : pc prog 5 [eListeners l, eListener x, .bool root] = some (.bool true) :=
  law_once l x root (by obtain ⟨_, _, _, _, _, _, hp, _⟩ := o; exact hp.1) (by have := len_bulk l [eListener x, .bool root]; omega)
end Go.Proofs.Ytnijbejobbajfaa.L
