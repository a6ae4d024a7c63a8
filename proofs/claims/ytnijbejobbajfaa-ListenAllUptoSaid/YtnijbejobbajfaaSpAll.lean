/- The law ListenAll. Its conditions: none. -/
import Derived.Test.YtnijbejobbajfaaSpOnce
set_option linter.unusedSimpArgs false
set_option linter.unusedVariables false
set_option linter.unusedSectionVars false
set_option linter.unnecessarySimpa false
namespace Go.Proofs.Ytnijbejobbajfaa.L
open Go.AI
theorem chk_pair {nx : Int} : ∀ (l pre : List Listener) (last : Int), chk nx pre last l = true → l.Pairwise (fun a b => a.id < b.id)
  | [], _, _, _ => List.Pairwise.nil
  | y :: r, pre, last, h => by
    have h2 : chk nx (pre ++ [y]) y.id r = true := by simp only [chk, Bool.and_eq_true] at h; exact h.2
    exact List.Pairwise.cons (fun z hz => (chk_all _ _ _ h2 z hz).1) (chk_pair r _ _ h2)
theorem check_pair {l : Listeners} (hc : check l = 0) : l.list.l.Pairwise (fun a b => a.id < b.id) := by
  rcases check_chk hc with ⟨h, _⟩ | ⟨_, _, _, h⟩
  · rw [h]; exact List.Pairwise.nil
  · exact chk_pair _ _ _ h
theorem idx_some {T : Type} (p : T → Bool) : ∀ (l : List T) (k : Nat), (∃ z ∈ l, p z = true) → ∃ (j : Nat) (hj : j < l.length), idx p l (k : Int) = ((k + j : Nat) : Int) ∧ p l[j] = true
  | [], k, ⟨z, hz, _⟩ => by cases hz
  | x :: r, k, ⟨z, hz, hp⟩ => by
    by_cases hx : p x = true
    · exact ⟨0, by simp, by simp [idx, hx], by simpa using hx⟩
    · have hz' : z ∈ r := by
        rcases List.mem_cons.1 hz with rfl | h
        · exact absurd hp hx
        · exact h
      obtain ⟨j, hj, h1, h2⟩ := idx_some p r (k + 1) ⟨z, hz', hp⟩
      refine ⟨j + 1, by simp; omega, ?_, by simpa using h2⟩
      simp only [idx, hx, Bool.false_eq_true, if_false]
      rw [show (k : Int) + 1 = ((k + 1 : Nat) : Int) by omega, h1]
      omega
theorem dueL_pair {l : List Listener} (h : l.Pairwise (fun a b => a.id < b.id)) (node : Int) (kind : List UInt8) (c : Bool) : (dueL node kind c l).Pairwise (· < ·) := by
  rw [dueL, List.pairwise_map]
  exact h.filter _
theorem place_due {l : List Listener} (h : l.Pairwise (fun a b => a.id < b.id)) (node : Int) (kind : List UInt8) (c : Bool) {i : Nat} (hi : i < (dueL node kind c l).length) :
    ∃ (j : Nat) (hj : j < l.length), idx (fun x => x.id == (dueL node kind c l)[i]) l 0 = (j : Int) ∧ l[j].type_ = kind ∧ l[j].node = node := by
  have hm : (dueL node kind c l)[i] ∈ dueL node kind c l := List.getElem_mem hi
  have hm2 := hm
  simp only [dueL, List.mem_map, List.mem_filter, Bool.and_eq_true, beq_iff_eq] at hm2
  obtain ⟨z, ⟨hz, ⟨h1, h2⟩, h3⟩, h4⟩ := hm2
  obtain ⟨j, hj, e1, e2⟩ := idx_some (fun x => x.id == (dueL node kind c l)[i]) l 0 ⟨z, hz, by simp only [beq_iff_eq]; exact h4⟩
  refine ⟨j, hj, by simpa using e1, ?_⟩
  have hid : l[j].id = z.id := by
    simp only [beq_iff_eq] at e2
    rw [e2]; exact h4.symm
  obtain ⟨m, hm, rfl⟩ := List.getElem_of_mem hz
  have hjm : j = m := by
    rw [List.pairwise_iff_getElem] at h
    rcases Nat.lt_trichotomy j m with hl | hl | hl
    · have := h j m hj hm hl; omega
    · exact hl
    · have := h m j hm hj hl; omega
  subst hjm
  exact ⟨h2, h1⟩
theorem due_count (node : Int) (kind : List UInt8) : ∀ l : List Listener, (dueL node kind true l).length + (dueL node kind false l).length = (l.filter fun z => z.type_ == kind && z.node == node).length
  | [] => rfl
  | z :: r => by
    have ih := due_count node kind r
    simp only [dueL_cons, List.length_append, List.filter_cons]
    rcases hk : z.type_ == kind <;> rcases hn : z.node == node <;> rcases hcap : z.capture <;> simp <;> omega
theorem all_inner (l : Listeners) (hc : check l = 0) (node : Int) (kind : List UInt8) (c : Bool) (s : St) (hn0 : 0 < s.h.next) (h1 : s.r 1 = .d (.int .i64 node)) (h2 : s.r 2 = .d (.str kind)) (h4 : s.r 4 = .ptr 0 0 0) (h0 : s.h.get 0 = some (.els 2 [.d (eListeners l)] 0)) (n : Bool) (hl : s.r 131 = .d (.list n ((dueL node kind c l.list.l).map (D.int .i64)))) (h21 : s.r 21 = .d (.list n ((dueL node kind c l.list.l).map (D.int .i64))))
    (h132 : s.r 132 = .d (.int .i64 (dueL node kind c l.list.l).length)) (h133 : s.r 133 = .d (.int .i64 0)) :
    Wp prog (.loop c6B1) s (fun e s' => e = .exit 4 ∧ ∀ b, b < s.h.next → s'.h.get b = s.h.get b) := by
  have hlen := check_len hc
  have hdl : (dueL node kind c l.list.l).length ≤ 1024 := Nat.le_trans (by rw [dueL, List.length_map]; exact List.length_filter_le _ _) hlen
  refine Wp.rounds (dueL node kind c l.list.l).length (fun s0 i s => s.r 133 = .d (.int .i64 i) ∧ ∀ b, b < s0.h.next → s.h.get b = s0.h.get b) ?_ ?_ ?_
  · exact ⟨by simpa using h133, fun _ _ => rfl⟩
  · rintro i s' hi hK ⟨h133, hg⟩
    have r1 := (hK.reg 1 rfl).trans h1
    have r2 := (hK.reg 2 rfl).trans h2
    have r4 := (hK.reg 4 rfl).trans h4
    have r131 := (hK.reg 131 rfl).trans hl
    have r21 := (hK.reg 21 rfl).trans h21
    have r132 := (hK.reg 132 rfl).trans h132
    have hn := hK.next
    have g0 : s'.h.get 0 = some (.els 2 [.d (eListeners l)] 0) := by rw [hg 0 hn0]; exact h0
    have hw := wrap_nat (show i < 2 ^ 62 by omega)
    obtain ⟨j, hj, e1, e2, e3⟩ := place_due (check_pair hc) node kind c hi
    have hpl := place_spec l (dueL node kind c l.list.l)[i] (by omega)
    rw [e1] at hpl
    have hj0 : decide ((j : Int) < 0) = false := by simp
    have hp := dueL_pair (check_pair hc) node kind c
    clear e1 hK
    delta c6B1
    rcases i with _ | m
    · have hz : decide ((0 : Int) < ((0 : Nat) : Int)) = false := by simp
      simp only [go_sem, regs0, ↓reduceIte, Nat.reduceAdd, Nat.reduceEqDiff, Nat.reduceBEq, Nat.reduceBNe, Nat.reduceLeDiff, Nat.reduceLT, reduceCtorEq, decide_true, decide_false, List.length_map, Int.reduceLT, Int.reduceLE, Int.reduceBEq, Int.reduceAdd, Int.reduceSub, Int.reduceToNat, r1, r2, r4, r131, r21, r132, h133, g0, nat_lt, hi, nat_pos, Int.toNat_natCast, map_get hi, hpl, map_get hj, e2, e3, beq_self_eq_true, Bool.not_true, hj0, hz, hw]
      exact hg
    · have hz : decide ((0 : Int) < ((m + 1 : Nat) : Int)) = true := by simp
      have hm : m < (dueL node kind c l.list.l).length := by omega
      have hwm : IntKind.i64.wrap (((m + 1 : Nat) : Int) - 1) = (m : Int) := by rw [IntKind.wrap_i64]; omega
      have hlt : decide ((dueL node kind c l.list.l)[m + 1] ≤ (dueL node kind c l.list.l)[m]) = false := by
        rw [List.pairwise_iff_getElem] at hp
        have := hp m (m + 1) hm hi (by omega)
        simp; omega
      simp only [go_sem, regs0, ↓reduceIte, Nat.reduceAdd, Nat.reduceEqDiff, Nat.reduceBEq, Nat.reduceBNe, Nat.reduceLeDiff, Nat.reduceLT, reduceCtorEq, decide_true, decide_false, List.length_map, Int.reduceLT, Int.reduceLE, Int.reduceBEq, Int.reduceAdd, Int.reduceSub, Int.reduceToNat, r1, r2, r4, r131, r21, r132, h133, g0, nat_lt, hi, nat_pos, Int.toNat_natCast, map_get hi, map_get hm, hpl, map_get hj, e2, e3, beq_self_eq_true, Bool.not_true, hj0, hz, hw, hwm, hlt]
      exact hg
  · rintro s' hK ⟨h133, hg⟩
    have r132 := (hK.reg 132 rfl).trans h132
    delta c6B1
    simp only [go_sem, regs0, ↓reduceIte, Nat.reduceAdd, Nat.reduceEqDiff, Nat.reduceBEq, Nat.reduceBNe, Nat.reduceLeDiff, Nat.reduceLT, reduceCtorEq, decide_true, decide_false, List.length_map, Int.reduceLT, Int.reduceLE, Int.reduceBEq, Int.reduceAdd, Int.reduceSub, Int.reduceToNat, r132, h133, nat_lt, Nat.lt_irrefl]
    exact hg
theorem all_outer (l : Listeners) (hc : check l = 0) (node : Int) (kind : List UInt8) (s : St) (bb : Nat) (hbb : bb < s.h.next) (hn0 : 0 < s.h.next) (h1 : s.r 1 = .d (.int .i64 node)) (h2 : s.r 2 = .d (.str kind)) (h4 : s.r 4 = .ptr 0 0 0) (h0 : s.h.get 0 = some (.els 2 [.d (eListeners l)] 0)) (n m : Bool) (h125 : s.r 125 = .sl bb 0 2) (hb : s.h.get bb = some (.els 1 [.d (.list n ((dueL node kind true l.list.l).map (D.int .i64))), .d (.list m ((dueL node kind false l.list.l).map (D.int .i64)))] 0))
    (h126 : s.r 126 = .d (.int .i64 2)) (h127 : s.r 127 = .d (.int .i64 0)) :
    Wp prog (.loop c6B2) s (fun e s' => e = .exit 2 ∧ ∀ b, b < s.h.next → s'.h.get b = s.h.get b) := by
  refine Wp.rounds 2 (fun s0 i s => s.r 127 = .d (.int .i64 i) ∧ ∀ b, b < s0.h.next → s.h.get b = s0.h.get b) ?_ ?_ ?_
  · exact ⟨by simpa using h127, fun _ _ => rfl⟩
  · rintro i s' hi hK ⟨h127, hg⟩
    have r1 := (hK.reg 1 rfl).trans h1
    have r2 := (hK.reg 2 rfl).trans h2
    have r4 := (hK.reg 4 rfl).trans h4
    have r125 := (hK.reg 125 rfl).trans h125
    have r126 := (hK.reg 126 rfl).trans h126
    have hn := hK.next
    have g0 : s'.h.get 0 = some (.els 2 [.d (eListeners l)] 0) := by rw [hg 0 hn0]; exact h0
    have gb := (hg bb hbb).trans hb
    clear hK
    have hi' : i = 0 ∨ i = 1 := by omega
    delta c6B2
    rcases hi' with rfl | rfl
    · have hlt : decide (((0 : Nat) : Int) < 2) = true := by decide
      have hz : (0 : Int) ≤ ((0 : Nat) : Int) := by decide
      have hw : IntKind.i64.wrap (((0 : Nat) : Int) + 1) = ((1 : Nat) : Int) := by decide
      simp only [go_sem, regs0, ↓reduceIte, Nat.reduceAdd, Nat.reduceEqDiff, Nat.reduceBEq, Nat.reduceBNe, Nat.reduceLeDiff, Nat.reduceLT, reduceCtorEq, decide_true, decide_false, List.length_map, Int.reduceLT, Int.reduceLE, Int.reduceBEq, Int.reduceAdd, Int.reduceSub, Int.reduceToNat, r1, r2, r4, r125, r126, h127, hlt, hz, Int.toNat_natCast, gb]
      refine (Wp.with_kept (all_inner l hc node kind true _ ?_ ?_ ?_ ?_ ?_ n ?_ ?_ ?_ ?_)).mono ?_
      · simp only [go_sem, regs0, ↓reduceIte, Nat.reduceAdd, Nat.reduceEqDiff, Nat.reduceBEq, Nat.reduceBNe, Nat.reduceLeDiff, Nat.reduceLT, reduceCtorEq, decide_true, decide_false, List.length_map, Int.reduceLT, Int.reduceLE, Int.reduceBEq, Int.reduceAdd, Int.reduceSub, Int.reduceToNat]; omega
      · simp only [go_sem, regs0, ↓reduceIte, Nat.reduceAdd, Nat.reduceEqDiff, Nat.reduceBEq, Nat.reduceBNe, Nat.reduceLeDiff, Nat.reduceLT, reduceCtorEq, decide_true, decide_false, List.length_map, Int.reduceLT, Int.reduceLE, Int.reduceBEq, Int.reduceAdd, Int.reduceSub, Int.reduceToNat, r1]
      · simp only [go_sem, regs0, ↓reduceIte, Nat.reduceAdd, Nat.reduceEqDiff, Nat.reduceBEq, Nat.reduceBNe, Nat.reduceLeDiff, Nat.reduceLT, reduceCtorEq, decide_true, decide_false, List.length_map, Int.reduceLT, Int.reduceLE, Int.reduceBEq, Int.reduceAdd, Int.reduceSub, Int.reduceToNat, r2]
      · simp only [go_sem, regs0, ↓reduceIte, Nat.reduceAdd, Nat.reduceEqDiff, Nat.reduceBEq, Nat.reduceBNe, Nat.reduceLeDiff, Nat.reduceLT, reduceCtorEq, decide_true, decide_false, List.length_map, Int.reduceLT, Int.reduceLE, Int.reduceBEq, Int.reduceAdd, Int.reduceSub, Int.reduceToNat, r4]
      · simp only [go_sem, regs0, ↓reduceIte, Nat.reduceAdd, Nat.reduceEqDiff, Nat.reduceBEq, Nat.reduceBNe, Nat.reduceLeDiff, Nat.reduceLT, reduceCtorEq, decide_true, decide_false, List.length_map, Int.reduceLT, Int.reduceLE, Int.reduceBEq, Int.reduceAdd, Int.reduceSub, Int.reduceToNat, g0]
      iterate 4 (simp only [go_sem, regs0, ↓reduceIte, Nat.reduceAdd, Nat.reduceEqDiff, Nat.reduceBEq, Nat.reduceBNe, Nat.reduceLeDiff, Nat.reduceLT, reduceCtorEq, decide_true, decide_false, List.length_map, Int.reduceLT, Int.reduceLE, Int.reduceBEq, Int.reduceAdd, Int.reduceSub, Int.reduceToNat])
      rintro e s2 ⟨K2, rfl, hg2⟩
      have q127 := K2.reg 127 rfl
      simp only [go_sem, regs0, ↓reduceIte, Nat.reduceAdd, Nat.reduceEqDiff, Nat.reduceBEq, Nat.reduceBNe, Nat.reduceLeDiff, Nat.reduceLT, reduceCtorEq, decide_true, decide_false, List.length_map, Int.reduceLT, Int.reduceLE, Int.reduceBEq, Int.reduceAdd, Int.reduceSub, Int.reduceToNat, h127] at q127 hg2
      simp only [go_sem, regs0, ↓reduceIte, Nat.reduceAdd, Nat.reduceEqDiff, Nat.reduceBEq, Nat.reduceBNe, Nat.reduceLeDiff, Nat.reduceLT, reduceCtorEq, decide_true, decide_false, List.length_map, Int.reduceLT, Int.reduceLE, Int.reduceBEq, Int.reduceAdd, Int.reduceSub, Int.reduceToNat, q127, hw]
      exact fun b hb => (hg2 b (by omega)).trans (hg b hb)
    · have hlt : decide (((1 : Nat) : Int) < 2) = true := by decide
      have hz : (0 : Int) ≤ ((1 : Nat) : Int) := by decide
      have hw : IntKind.i64.wrap (((1 : Nat) : Int) + 1) = ((1 + 1 : Nat) : Int) := by decide
      simp only [go_sem, regs0, ↓reduceIte, Nat.reduceAdd, Nat.reduceEqDiff, Nat.reduceBEq, Nat.reduceBNe, Nat.reduceLeDiff, Nat.reduceLT, reduceCtorEq, decide_true, decide_false, List.length_map, Int.reduceLT, Int.reduceLE, Int.reduceBEq, Int.reduceAdd, Int.reduceSub, Int.reduceToNat, r1, r2, r4, r125, r126, h127, hlt, hz, Int.toNat_natCast, gb]
      refine (Wp.with_kept (all_inner l hc node kind false _ ?_ ?_ ?_ ?_ ?_ m ?_ ?_ ?_ ?_)).mono ?_
      · simp only [go_sem, regs0, ↓reduceIte, Nat.reduceAdd, Nat.reduceEqDiff, Nat.reduceBEq, Nat.reduceBNe, Nat.reduceLeDiff, Nat.reduceLT, reduceCtorEq, decide_true, decide_false, List.length_map, Int.reduceLT, Int.reduceLE, Int.reduceBEq, Int.reduceAdd, Int.reduceSub, Int.reduceToNat]; omega
      · simp only [go_sem, regs0, ↓reduceIte, Nat.reduceAdd, Nat.reduceEqDiff, Nat.reduceBEq, Nat.reduceBNe, Nat.reduceLeDiff, Nat.reduceLT, reduceCtorEq, decide_true, decide_false, List.length_map, Int.reduceLT, Int.reduceLE, Int.reduceBEq, Int.reduceAdd, Int.reduceSub, Int.reduceToNat, r1]
      · simp only [go_sem, regs0, ↓reduceIte, Nat.reduceAdd, Nat.reduceEqDiff, Nat.reduceBEq, Nat.reduceBNe, Nat.reduceLeDiff, Nat.reduceLT, reduceCtorEq, decide_true, decide_false, List.length_map, Int.reduceLT, Int.reduceLE, Int.reduceBEq, Int.reduceAdd, Int.reduceSub, Int.reduceToNat, r2]
      · simp only [go_sem, regs0, ↓reduceIte, Nat.reduceAdd, Nat.reduceEqDiff, Nat.reduceBEq, Nat.reduceBNe, Nat.reduceLeDiff, Nat.reduceLT, reduceCtorEq, decide_true, decide_false, List.length_map, Int.reduceLT, Int.reduceLE, Int.reduceBEq, Int.reduceAdd, Int.reduceSub, Int.reduceToNat, r4]
      · simp only [go_sem, regs0, ↓reduceIte, Nat.reduceAdd, Nat.reduceEqDiff, Nat.reduceBEq, Nat.reduceBNe, Nat.reduceLeDiff, Nat.reduceLT, reduceCtorEq, decide_true, decide_false, List.length_map, Int.reduceLT, Int.reduceLE, Int.reduceBEq, Int.reduceAdd, Int.reduceSub, Int.reduceToNat, g0]
      iterate 4 (simp only [go_sem, regs0, ↓reduceIte, Nat.reduceAdd, Nat.reduceEqDiff, Nat.reduceBEq, Nat.reduceBNe, Nat.reduceLeDiff, Nat.reduceLT, reduceCtorEq, decide_true, decide_false, List.length_map, Int.reduceLT, Int.reduceLE, Int.reduceBEq, Int.reduceAdd, Int.reduceSub, Int.reduceToNat])
      rintro e s2 ⟨K2, rfl, hg2⟩
      have q127 := K2.reg 127 rfl
      simp only [go_sem, regs0, ↓reduceIte, Nat.reduceAdd, Nat.reduceEqDiff, Nat.reduceBEq, Nat.reduceBNe, Nat.reduceLeDiff, Nat.reduceLT, reduceCtorEq, decide_true, decide_false, List.length_map, Int.reduceLT, Int.reduceLE, Int.reduceBEq, Int.reduceAdd, Int.reduceSub, Int.reduceToNat, h127] at q127 hg2
      simp only [go_sem, regs0, ↓reduceIte, Nat.reduceAdd, Nat.reduceEqDiff, Nat.reduceBEq, Nat.reduceBNe, Nat.reduceLeDiff, Nat.reduceLT, reduceCtorEq, decide_true, decide_false, List.length_map, Int.reduceLT, Int.reduceLE, Int.reduceBEq, Int.reduceAdd, Int.reduceSub, Int.reduceToNat, q127, hw]
      exact fun b hb => (hg2 b (by omega)).trans (hg b hb)
  · rintro s' hK ⟨h127, hg⟩
    have r126 := (hK.reg 126 rfl).trans h126
    delta c6B2
    have hlt : decide (((2 : Nat) : Int) < 2) = false := by decide
    simp only [go_sem, regs0, ↓reduceIte, Nat.reduceAdd, Nat.reduceEqDiff, Nat.reduceBEq, Nat.reduceBNe, Nat.reduceLeDiff, Nat.reduceLT, reduceCtorEq, decide_true, decide_false, List.length_map, Int.reduceLT, Int.reduceLE, Int.reduceBEq, Int.reduceAdd, Int.reduceSub, Int.reduceToNat, r126, h127, hlt]
    exact hg
theorem all_count (l : Listeners) (node : Int) (kind : List UInt8) (hl : l.list.l.length ≤ 2 ^ 31) (s : St) (h1 : s.r 1 = .d (.int .i64 node)) (h2 : s.r 2 = .d (.str kind)) (h104 : s.r 104 = .d (.list l.list.n (l.list.l.map eListener))) (h105 : s.r 105 = .d (.int .i64 l.list.l.length)) (h106 : s.r 106 = .d (.int .i64 0)) (h17 : s.r 17 = .d (.int .i64 0)) :
    Wp prog (.loop c6B0) s (fun e s' => e = .exit 0 ∧ s'.r 17 = .d (.int .i64 (l.list.l.filter fun z => z.type_ == kind && z.node == node).length) ∧ ∀ b, b < s.h.next → s'.h.get b = s.h.get b) := by
  refine Wp.rounds l.list.l.length (fun s0 i s => ∃ m : Nat, s.r 106 = .d (.int .i64 i) ∧ s.r 17 = .d (.int .i64 m) ∧ m ≤ i ∧ m + ((l.list.l.drop i).filter fun z => z.type_ == kind && z.node == node).length = (l.list.l.filter fun z => z.type_ == kind && z.node == node).length ∧ ∀ b, b < s0.h.next → s.h.get b = s0.h.get b) ?_ ?_ ?_
  · exact ⟨0, by simpa using h106, by simpa using h17, by omega, by simp, fun _ _ => rfl⟩
  · rintro i s' hi hK ⟨m, h106, h17, hm, hF, hg⟩
    have r1 := (hK.reg 1 rfl).trans h1
    have r2 := (hK.reg 2 rfl).trans h2
    have r104 := (hK.reg 104 rfl).trans h104
    have r105 := (hK.reg 105 rfl).trans h105
    have hn := hK.next
    clear hK
    have hw := wrap_nat (show i < 2 ^ 62 by omega)
    have hwm := wrap_nat (show m < 2 ^ 62 by omega)
    rw [drop_cons hi, List.filter_cons] at hF
    have hgg : ∀ (b : Nat) (x y : Option Blk), b < s.h.next → (if b = s'.h.next + 3 then x else if b = s'.h.next + 3 then y else s'.h.get b) = s.h.get b := fun b x y hb => by rw [if_neg (by omega), if_neg (by omega)]; exact hg b hb
    delta c6B0
    rcases hk : l.list.l[i].type_ == kind with _ | _
    · rw [if_neg (by simp only [hk, Bool.false_and, Bool.false_eq_true, not_false_eq_true])] at hF
      simp only [go_sem, regs0, ↓reduceIte, Nat.reduceAdd, Nat.reduceEqDiff, Nat.reduceBEq, Nat.reduceBNe, Nat.reduceLeDiff, Nat.reduceLT, reduceCtorEq, decide_true, decide_false, List.length_map, Int.reduceLT, Int.reduceLE, Int.reduceBEq, Int.reduceAdd, Int.reduceSub, Int.reduceToNat, r1, r2, r104, r105, h106, h17, nat_lt, hi, nat_pos, Int.toNat_natCast, map_get hi, low_ne' (Nat.le_refl s'.h.next), hk]
      exact ⟨m, by rw [hw], rfl, by omega, hF, fun b hb => hgg b _ _ hb⟩
    rcases hc : l.list.l[i].node == node with _ | _
    · rw [if_neg (by simp only [hk, hc, Bool.and_false, Bool.false_eq_true, not_false_eq_true])] at hF
      simp only [go_sem, regs0, ↓reduceIte, Nat.reduceAdd, Nat.reduceEqDiff, Nat.reduceBEq, Nat.reduceBNe, Nat.reduceLeDiff, Nat.reduceLT, reduceCtorEq, decide_true, decide_false, List.length_map, Int.reduceLT, Int.reduceLE, Int.reduceBEq, Int.reduceAdd, Int.reduceSub, Int.reduceToNat, r1, r2, r104, r105, h106, h17, nat_lt, hi, nat_pos, Int.toNat_natCast, map_get hi, low_ne' (Nat.le_refl s'.h.next), hk, hc]
      exact ⟨m, by rw [hw], rfl, by omega, hF, fun b hb => hgg b _ _ hb⟩
    · rw [if_pos (by simp only [hk, hc, Bool.and_self])] at hF
      obtain ⟨v, hv⟩ : ∃ v : Int, v = (m : Int) := ⟨_, rfl⟩
      rw [← hv] at h17 hwm
      simp only [go_sem, regs0, ↓reduceIte, Nat.reduceAdd, Nat.reduceEqDiff, Nat.reduceBEq, Nat.reduceBNe, Nat.reduceLeDiff, Nat.reduceLT, reduceCtorEq, decide_true, decide_false, List.length_map, Int.reduceLT, Int.reduceLE, Int.reduceBEq, Int.reduceAdd, Int.reduceSub, Int.reduceToNat, r1, r2, r104, r105, h106, h17, nat_lt, hi, nat_pos, Int.toNat_natCast, map_get hi, low_ne' (Nat.le_refl s'.h.next), hk, hc]
      exact ⟨m + 1, by rw [hw], by rw [hwm], by omega, by simp only [List.length_cons] at hF; omega, fun b hb => hgg b _ _ hb⟩
  · rintro s' hK ⟨m, h106, h17, hm, hF, hg⟩
    have r105 := (hK.reg 105 rfl).trans h105
    delta c6B0
    simp only [go_sem, regs0, ↓reduceIte, Nat.reduceAdd, Nat.reduceEqDiff, Nat.reduceBEq, Nat.reduceBNe, Nat.reduceLeDiff, Nat.reduceLT, reduceCtorEq, decide_true, decide_false, List.length_map, Int.reduceLT, Int.reduceLE, Int.reduceBEq, Int.reduceAdd, Int.reduceSub, Int.reduceToNat, r105, h106, nat_lt, Nat.lt_irrefl]
    rw [h17, ← hF]
    exact ⟨by simp, hg⟩
theorem drop_get {T : Type} {a : List T} {m : Nat} {z : T} {r : List T} (h : a.drop m = z :: r) : ∃ hm : m < a.length, a[m] = z ∧ a.drop (m + 1) = r := by
  have hm : m < a.length := by
    rcases Nat.lt_or_ge m a.length with h1 | h1
    · exact h1
    · rw [List.drop_eq_nil_of_le h1] at h; cases h
  rw [drop_cons hm] at h
  injection h with h1 h2
  exact ⟨hm, h1, h2⟩
theorem all_left (l : Listeners) (left : Listeners) (id : Int) (hleft : left.list.l = l.list.l.filter (ab_p id)) (hl : l.list.l.length ≤ 2 ^ 31) (s : St) (a : Nat) (ha : a < s.h.next) (h3 : s.r 3 = .d (.int .i64 id)) (h25 : s.r 25 = .ptr a 0 0) (hga : s.h.get a = some (.els 2 [.d (eListeners left)] 0)) (h185 : s.r 185 = .d (.list l.list.n (l.list.l.map eListener))) (h186 : s.r 186 = .d (.int .i64 l.list.l.length)) (h187 : s.r 187 = .d (.int .i64 0)) (h27 : s.r 27 = .d (.int .i64 0)) :
    Wp prog (.loop c6B3) s (fun e s' => e = .exit 6 ∧ s'.r 27 = .d (.int .i64 left.list.l.length) ∧ s'.h.get a = some (.els 2 [.d (eListeners left)] 0)) := by
  refine Wp.rounds l.list.l.length (fun s0 i s => ∃ m : Nat, s.r 187 = .d (.int .i64 i) ∧ s.r 27 = .d (.int .i64 m) ∧ (m ≤ i ∧ m ≤ left.list.l.length) ∧ left.list.l.drop m = (l.list.l.drop i).filter (ab_p id) ∧ s.h.get a = s0.h.get a) ?_ ?_ ?_
  · exact ⟨0, by simpa using h187, by simpa using h27, by simp, by simpa using hleft, rfl⟩
  · rintro i s' hi hK ⟨m, h187, h27, hm, hF, hg⟩
    have r3 := (hK.reg 3 rfl).trans h3
    have r25 := (hK.reg 25 rfl).trans h25
    have r185 := (hK.reg 185 rfl).trans h185
    have r186 := (hK.reg 186 rfl).trans h186
    have hn := hK.next
    have g := hg.trans hga
    clear hK
    have hw := wrap_nat (show i < 2 ^ 62 by omega)
    have hwm := wrap_nat (show m < 2 ^ 62 by omega)
    obtain ⟨v, hv⟩ : ∃ v : Int, v = (m : Int) := ⟨_, rfl⟩
    rw [← hv] at h27 hwm
    rw [drop_cons hi, List.filter_cons] at hF
    have hgg : ∀ (x y : Option Blk) (j k : Nat), (if a = s'.h.next + j then x else if a = s'.h.next + k then y else s'.h.get a) = s'.h.get a := fun x y j k => by rw [if_neg (by omega), if_neg (by omega)]
    have han : ∀ j, (a = s'.h.next + j) = False := fun j => by simp; omega
    delta c6B3
    by_cases hp : ab_p id l.list.l[i] = true
    · rw [if_pos hp] at hF
      obtain ⟨hm2, e1, e2⟩ := drop_get hF
      have hlt : decide ((left.list.l.length : Int) ≤ v) = false := by rw [hv]; simp; omega
      have hv0 : (0 : Int) ≤ v := by omega
      have hvt : v.toNat = m := by omega
      rcases h0 : id == 0 with _ | _
      · have hsig : (l.list.l[i].signal == id) = false := by simpa [ab_p, h0] using hp
        simp only [go_sem, regs0, ↓reduceIte, Nat.reduceAdd, Nat.reduceEqDiff, Nat.reduceBEq, Nat.reduceBNe, Nat.reduceLeDiff, Nat.reduceLT, reduceCtorEq, decide_true, decide_false, List.length_map, Int.reduceLT, Int.reduceLE, Int.reduceBEq, Int.reduceAdd, Int.reduceSub, Int.reduceToNat, r3, r25, r185, r186, h187, h27, nat_lt, hi, nat_pos, Int.toNat_natCast, map_get hi, han, g, h0, hsig, hlt, hv0, hvt, map_get hm2, e1, Bool.not_true, Bool.not_false]
        exact ⟨m + 1, by rw [hw], by rw [hwm], by omega, e2, by rw [hga]⟩
      · simp only [go_sem, regs0, ↓reduceIte, Nat.reduceAdd, Nat.reduceEqDiff, Nat.reduceBEq, Nat.reduceBNe, Nat.reduceLeDiff, Nat.reduceLT, reduceCtorEq, decide_true, decide_false, List.length_map, Int.reduceLT, Int.reduceLE, Int.reduceBEq, Int.reduceAdd, Int.reduceSub, Int.reduceToNat, r3, r25, r185, r186, h187, h27, nat_lt, hi, nat_pos, Int.toNat_natCast, map_get hi, han, g, h0, hlt, hv0, hvt, map_get hm2, e1, Bool.not_true, Bool.not_false]
        exact ⟨m + 1, by rw [hw], by rw [hwm], by omega, e2, by rw [hga]⟩
    · rw [if_neg hp] at hF
      have h0 : (id == 0) = false := by
        rcases h : id == 0 with _ | _
        · rfl
        · exact absurd (by simp only [ab_p, h, Bool.true_or]) hp
      have hsig : (l.list.l[i].signal == id) = true := by
        rcases h : l.list.l[i].signal == id with _ | _
        · exact absurd (by simp only [ab_p, h, Bool.not_false, Bool.or_true]) hp
        · rfl
      simp only [go_sem, regs0, ↓reduceIte, Nat.reduceAdd, Nat.reduceEqDiff, Nat.reduceBEq, Nat.reduceBNe, Nat.reduceLeDiff, Nat.reduceLT, reduceCtorEq, decide_true, decide_false, List.length_map, Int.reduceLT, Int.reduceLE, Int.reduceBEq, Int.reduceAdd, Int.reduceSub, Int.reduceToNat, r3, r25, r185, r186, h187, h27, nat_lt, hi, nat_pos, Int.toNat_natCast, map_get hi, han, g, h0, hsig, Bool.not_true, Bool.not_false]
      exact ⟨m, by rw [hw], by rw [hv], by omega, hF, by rw [hga]⟩
  · rintro s' hK ⟨m, h187, h27, hm, hF, hg⟩
    have r186 := (hK.reg 186 rfl).trans h186
    delta c6B3
    simp only [go_sem, regs0, ↓reduceIte, Nat.reduceAdd, Nat.reduceEqDiff, Nat.reduceBEq, Nat.reduceBNe, Nat.reduceLeDiff, Nat.reduceLT, reduceCtorEq, decide_true, decide_false, List.length_map, Int.reduceLT, Int.reduceLE, Int.reduceBEq, Int.reduceAdd, Int.reduceSub, Int.reduceToNat, r186, h187, nat_lt, Nat.lt_irrefl]
    have hml : m = left.list.l.length := by
      have h1 : left.list.l.length ≤ m := by
        rcases Nat.lt_or_ge m left.list.l.length with h | h
        · rw [drop_cons h] at hF; simp at hF; exact hF
        · exact h
      omega
    rw [h27, hml]
    exact ⟨rfl, hg.trans hga⟩
theorem due_1 {l : Listeners} {node : Int} {kind : List UInt8} {b : Bool} (hc : check l = 0) : due l node kind 1 b = (⟨(dueL node kind true l.list.l).isEmpty, dueL node kind true l.list.l⟩, 0) := by rw [due, if_pos hc, if_pos rfl]
theorem due_3 {l : Listeners} {node : Int} {kind : List UInt8} {b : Bool} (hc : check l = 0) : due l node kind 3 b = (⟨(dueL node kind false l.list.l).isEmpty, dueL node kind false l.list.l⟩, 0) := by rw [due, if_pos hc, if_neg (by decide), if_pos rfl]
theorem due_2 {l : Listeners} {node : Int} {kind : List UInt8} {b : Bool} (hc : check l = 0) : due l node kind 2 b = (⟨(dueL node kind b l.list.l).isEmpty, dueL node kind b l.list.l⟩, 0) := by rw [due, if_pos hc, if_neg (by decide), if_neg (by decide), if_pos rfl]
theorem due_no {l : Listeners} {node : Int} {kind : List UInt8} {p : Int} {b : Bool} (hc : ¬ check l = 0) : due l node kind p b = (⟨true, []⟩, check l) := by rw [due, if_neg hc]
set_option maxRecDepth 100000 in
theorem law_all (l : Listeners) (node : Int) (kind : List UInt8) (signal : Int) : pc prog 6 [eListeners l, .int .i64 node, .str kind, .int .i64 signal] = some (.bool true) := by
  have c1 := prg_due l node kind 1 false
  have c2 := prg_due l node kind 3 true
  have c3 := prg_due l node kind 2 true
  have c4 := prg_due l node kind 2 false
  refine pc_of (fn := c6) rfl rfl ?_
  delta c6
  by_cases hc : check l = 0
  · have hl := check_len hc
    rw [due_1 hc] at c1
    rw [due_3 hc] at c2
    rw [due_2 hc] at c3 c4
    have hdl : ∀ c, (dueL node kind c l.list.l).length ≤ 1024 := fun c => Nat.le_trans (by rw [dueL, List.length_map]; exact List.length_filter_le _ _) hl
    have i1 := ints_true (dueL node kind true l.list.l).isEmpty (dueL node kind true l.list.l).isEmpty (dueL node kind true l.list.l) (by have := hdl true; omega)
    have i2 := ints_true (dueL node kind false l.list.l).isEmpty (dueL node kind false l.list.l).isEmpty (dueL node kind false l.list.l) (by have := hdl false; omega)
    simp only [go_sem, regs0, ↓reduceIte, Nat.reduceAdd, Nat.reduceEqDiff, Nat.reduceBEq, Nat.reduceBNe, Nat.reduceLeDiff, Nat.reduceLT, reduceCtorEq, decide_true, decide_false, List.length_map, Int.reduceLT, Int.reduceLE, Int.reduceBEq, Int.reduceAdd, Int.reduceSub, Int.reduceToNat, c1, c2, c3, c4, i1, i2, lives_true, Bool.not_true, beq_self_eq_true]
    repeat' (first | (refine WGuard_splitN (fun hc => ?_) (fun hc => ?_) <;> (try simp only [go_sem, regs0, ↓reduceIte, Nat.reduceAdd, Nat.reduceEqDiff, Nat.reduceBEq, Nat.reduceBNe, Nat.reduceLeDiff, Nat.reduceLT, reduceCtorEq, decide_true, decide_false, List.length_map, Int.reduceLT, Int.reduceLE, Int.reduceBEq, Int.reduceAdd, Int.reduceSub, Int.reduceToNat, hc, c1, c2, c3, c4, i1, i2, lives_true, Bool.not_true, beq_self_eq_true])) | (refine WBr_splitN (fun hc => ?_) (fun hc => ?_) <;> (try simp only [go_sem, regs0, ↓reduceIte, Nat.reduceAdd, Nat.reduceEqDiff, Nat.reduceBEq, Nat.reduceBNe, Nat.reduceLeDiff, Nat.reduceLT, reduceCtorEq, decide_true, decide_false, List.length_map, Int.reduceLT, Int.reduceLE, Int.reduceBEq, Int.reduceAdd, Int.reduceSub, Int.reduceToNat, hc, c1, c2, c3, c4, i1, i2, lives_true, Bool.not_true, beq_self_eq_true])) | (refine WGuard_split (fun hc => ?_) (fun hc => ?_) <;> (try simp only [go_sem, regs0, ↓reduceIte, Nat.reduceAdd, Nat.reduceEqDiff, Nat.reduceBEq, Nat.reduceBNe, Nat.reduceLeDiff, Nat.reduceLT, reduceCtorEq, decide_true, decide_false, List.length_map, Int.reduceLT, Int.reduceLE, Int.reduceBEq, Int.reduceAdd, Int.reduceSub, Int.reduceToNat, hc, c1, c2, c3, c4, i1, i2, lives_true, Bool.not_true, beq_self_eq_true])) | (refine WBr_split (fun hc => ?_) (fun hc => ?_) <;> (try simp only [go_sem, regs0, ↓reduceIte, Nat.reduceAdd, Nat.reduceEqDiff, Nat.reduceBEq, Nat.reduceBNe, Nat.reduceLeDiff, Nat.reduceLT, reduceCtorEq, decide_true, decide_false, List.length_map, Int.reduceLT, Int.reduceLE, Int.reduceBEq, Int.reduceAdd, Int.reduceSub, Int.reduceToNat, hc, c1, c2, c3, c4, i1, i2, lives_true, Bool.not_true, beq_self_eq_true])))
    clear c1 c2 c3 c4 i1 i2
    refine (Wp.with_kept (all_count l node kind (by omega) _ ?_ ?_ ?_ ?_ ?_ ?_)).mono ?_
    iterate 6 (simp only [go_sem, regs0, ↓reduceIte, Nat.reduceAdd, Nat.reduceEqDiff, Nat.reduceBEq, Nat.reduceBNe, Nat.reduceLeDiff, Nat.reduceLT, reduceCtorEq, decide_true, decide_false, List.length_map, Int.reduceLT, Int.reduceLE, Int.reduceBEq, Int.reduceAdd, Int.reduceSub, Int.reduceToNat])
    rintro e s1 ⟨K1, rfl, h17, hg⟩
    have r1 := K1.reg 1 rfl
    have r2 := K1.reg 2 rfl
    have r3 := K1.reg 3 rfl
    have r4 := K1.reg 4 rfl
    have r9 := K1.reg 9 rfl
    have r11 := K1.reg 11 rfl
    have hn := K1.next
    have g0 := hg 0 (by simp only [go_sem, regs0, ↓reduceIte, Nat.reduceAdd, Nat.reduceEqDiff, Nat.reduceBEq, Nat.reduceBNe, Nat.reduceLeDiff, Nat.reduceLT, reduceCtorEq, decide_true, decide_false, List.length_map, Int.reduceLT, Int.reduceLE, Int.reduceBEq, Int.reduceAdd, Int.reduceSub, Int.reduceToNat])
    clear K1 hg
    simp only [go_sem, regs0, ↓reduceIte, Nat.reduceAdd, Nat.reduceEqDiff, Nat.reduceBEq, Nat.reduceBNe, Nat.reduceLeDiff, Nat.reduceLT, reduceCtorEq, decide_true, decide_false, List.length_map, Int.reduceLT, Int.reduceLE, Int.reduceBEq, Int.reduceAdd, Int.reduceSub, Int.reduceToNat] at r1 r2 r3 r4 r9 r11 hn g0
    have hset : ∀ (n m : Bool) (a b : List D), setAll 1 (List.replicate 2 (V.d (D.list true []))) [(0, V.d (.list n a)), (1, V.d (.list m b))] = some [V.d (.list n a), V.d (.list m b)] := fun _ _ _ _ => Eq.trans rfl rfl
    simp only [go_sem, regs0, ↓reduceIte, Nat.reduceAdd, Nat.reduceEqDiff, Nat.reduceBEq, Nat.reduceBNe, Nat.reduceLeDiff, Nat.reduceLT, reduceCtorEq, decide_true, decide_false, List.length_map, Int.reduceLT, Int.reduceLE, Int.reduceBEq, Int.reduceAdd, Int.reduceSub, Int.reduceToNat, r1, r2, r3, r4, r9, r11, g0, hset]
    refine (Wp.with_kept (all_outer l hc node kind _ (s1.h.next + 2) ?_ ?_ ?_ ?_ ?_ ?_ (dueL node kind true l.list.l).isEmpty (dueL node kind false l.list.l).isEmpty ?_ ?_ ?_ ?_)).mono ?_
    · simp only [go_sem, regs0, ↓reduceIte, Nat.reduceAdd, Nat.reduceEqDiff, Nat.reduceBEq, Nat.reduceBNe, Nat.reduceLeDiff, Nat.reduceLT, reduceCtorEq, decide_true, decide_false, List.length_map, Int.reduceLT, Int.reduceLE, Int.reduceBEq, Int.reduceAdd, Int.reduceSub, Int.reduceToNat]; omega
    · simp only [go_sem, regs0, ↓reduceIte, Nat.reduceAdd, Nat.reduceEqDiff, Nat.reduceBEq, Nat.reduceBNe, Nat.reduceLeDiff, Nat.reduceLT, reduceCtorEq, decide_true, decide_false, List.length_map, Int.reduceLT, Int.reduceLE, Int.reduceBEq, Int.reduceAdd, Int.reduceSub, Int.reduceToNat]; omega
    · simp only [go_sem, regs0, ↓reduceIte, Nat.reduceAdd, Nat.reduceEqDiff, Nat.reduceBEq, Nat.reduceBNe, Nat.reduceLeDiff, Nat.reduceLT, reduceCtorEq, decide_true, decide_false, List.length_map, Int.reduceLT, Int.reduceLE, Int.reduceBEq, Int.reduceAdd, Int.reduceSub, Int.reduceToNat, r1]
    · simp only [go_sem, regs0, ↓reduceIte, Nat.reduceAdd, Nat.reduceEqDiff, Nat.reduceBEq, Nat.reduceBNe, Nat.reduceLeDiff, Nat.reduceLT, reduceCtorEq, decide_true, decide_false, List.length_map, Int.reduceLT, Int.reduceLE, Int.reduceBEq, Int.reduceAdd, Int.reduceSub, Int.reduceToNat, r2]
    · simp only [go_sem, regs0, ↓reduceIte, Nat.reduceAdd, Nat.reduceEqDiff, Nat.reduceBEq, Nat.reduceBNe, Nat.reduceLeDiff, Nat.reduceLT, reduceCtorEq, decide_true, decide_false, List.length_map, Int.reduceLT, Int.reduceLE, Int.reduceBEq, Int.reduceAdd, Int.reduceSub, Int.reduceToNat, r4]
    · simp only [go_sem, regs0, ↓reduceIte, Nat.reduceAdd, Nat.reduceEqDiff, Nat.reduceBEq, Nat.reduceBNe, Nat.reduceLeDiff, Nat.reduceLT, reduceCtorEq, decide_true, decide_false, List.length_map, Int.reduceLT, Int.reduceLE, Int.reduceBEq, Int.reduceAdd, Int.reduceSub, Int.reduceToNat, g0, low_ne' (Nat.le_refl s1.h.next) 0 _ (by omega)]
    · simp only [go_sem, regs0, ↓reduceIte, Nat.reduceAdd, Nat.reduceEqDiff, Nat.reduceBEq, Nat.reduceBNe, Nat.reduceLeDiff, Nat.reduceLT, reduceCtorEq, decide_true, decide_false, List.length_map, Int.reduceLT, Int.reduceLE, Int.reduceBEq, Int.reduceAdd, Int.reduceSub, Int.reduceToNat]
    · simp only [go_sem, regs0, ↓reduceIte, Nat.reduceAdd, Nat.reduceEqDiff, Nat.reduceBEq, Nat.reduceBNe, Nat.reduceLeDiff, Nat.reduceLT, reduceCtorEq, decide_true, decide_false, List.length_map, Int.reduceLT, Int.reduceLE, Int.reduceBEq, Int.reduceAdd, Int.reduceSub, Int.reduceToNat]
    · simp only [go_sem, regs0, ↓reduceIte, Nat.reduceAdd, Nat.reduceEqDiff, Nat.reduceBEq, Nat.reduceBNe, Nat.reduceLeDiff, Nat.reduceLT, reduceCtorEq, decide_true, decide_false, List.length_map, Int.reduceLT, Int.reduceLE, Int.reduceBEq, Int.reduceAdd, Int.reduceSub, Int.reduceToNat]; rfl
    · simp only [go_sem, regs0, ↓reduceIte, Nat.reduceAdd, Nat.reduceEqDiff, Nat.reduceBEq, Nat.reduceBNe, Nat.reduceLeDiff, Nat.reduceLT, reduceCtorEq, decide_true, decide_false, List.length_map, Int.reduceLT, Int.reduceLE, Int.reduceBEq, Int.reduceAdd, Int.reduceSub, Int.reduceToNat]
    rintro e s2 ⟨K2, rfl, hg⟩
    have q1 := K2.reg 1 rfl
    have q3 := K2.reg 3 rfl
    have q4 := K2.reg 4 rfl
    have q9 := K2.reg 9 rfl
    have q11 := K2.reg 11 rfl
    have q17 := K2.reg 17 rfl
    have hn2 := K2.next
    have g02 := hg 0 (by simp only [go_sem, regs0, ↓reduceIte, Nat.reduceAdd, Nat.reduceEqDiff, Nat.reduceBEq, Nat.reduceBNe, Nat.reduceLeDiff, Nat.reduceLT, reduceCtorEq, decide_true, decide_false, List.length_map, Int.reduceLT, Int.reduceLE, Int.reduceBEq, Int.reduceAdd, Int.reduceSub, Int.reduceToNat]; omega)
    clear K2 hg
    simp only [go_sem, regs0, ↓reduceIte, Nat.reduceAdd, Nat.reduceEqDiff, Nat.reduceBEq, Nat.reduceBNe, Nat.reduceLeDiff, Nat.reduceLT, reduceCtorEq, decide_true, decide_false, List.length_map, Int.reduceLT, Int.reduceLE, Int.reduceBEq, Int.reduceAdd, Int.reduceSub, Int.reduceToNat, r1, r3, r4, r9, r11, h17, g0, low_ne' (Nat.le_refl s1.h.next) 0 _ (show 0 < s1.h.next by omega)] at q1 q3 q4 q9 q11 q17 hn2 g02
    have hn3 : 69 ≤ s2.h.next := by omega
    simp only [go_sem, regs0, ↓reduceIte, Nat.reduceAdd, Nat.reduceEqDiff, Nat.reduceBEq, Nat.reduceBNe, Nat.reduceLeDiff, Nat.reduceLT, reduceCtorEq, decide_true, decide_false, List.length_map, Int.reduceLT, Int.reduceLE, Int.reduceBEq, Int.reduceAdd, Int.reduceSub, Int.reduceToNat, q1, q3, q4, q9, q11, q17, g02, abort_spec, low_ne hn3, low_ne' hn3]
    have hab : (abort l signal).1.list.l = l.list.l.filter (ab_p signal) := by simp only [abort, if_pos hc, some_]
    have hab2 : (abort l signal).2 = 0 := by simp only [abort, if_pos hc]
    have hcnt := due_count node kind l.list.l
    refine (Wp.with_kept (all_left l (abort l signal).1 signal hab (by omega) _ (s2.h.next + 6) ?_ ?_ ?_ ?_ ?_ ?_ ?_ ?_)).mono ?_
    · simp only [go_sem, regs0, ↓reduceIte, Nat.reduceAdd, Nat.reduceEqDiff, Nat.reduceBEq, Nat.reduceBNe, Nat.reduceLeDiff, Nat.reduceLT, reduceCtorEq, decide_true, decide_false, List.length_map, Int.reduceLT, Int.reduceLE, Int.reduceBEq, Int.reduceAdd, Int.reduceSub, Int.reduceToNat]; omega
    · simp only [go_sem, regs0, ↓reduceIte, Nat.reduceAdd, Nat.reduceEqDiff, Nat.reduceBEq, Nat.reduceBNe, Nat.reduceLeDiff, Nat.reduceLT, reduceCtorEq, decide_true, decide_false, List.length_map, Int.reduceLT, Int.reduceLE, Int.reduceBEq, Int.reduceAdd, Int.reduceSub, Int.reduceToNat, q3]
    · simp only [go_sem, regs0, ↓reduceIte, Nat.reduceAdd, Nat.reduceEqDiff, Nat.reduceBEq, Nat.reduceBNe, Nat.reduceLeDiff, Nat.reduceLT, reduceCtorEq, decide_true, decide_false, List.length_map, Int.reduceLT, Int.reduceLE, Int.reduceBEq, Int.reduceAdd, Int.reduceSub, Int.reduceToNat]
    · simp only [go_sem, regs0, ↓reduceIte, Nat.reduceAdd, Nat.reduceEqDiff, Nat.reduceBEq, Nat.reduceBNe, Nat.reduceLeDiff, Nat.reduceLT, reduceCtorEq, decide_true, decide_false, List.length_map, Int.reduceLT, Int.reduceLE, Int.reduceBEq, Int.reduceAdd, Int.reduceSub, Int.reduceToNat]
    · simp only [go_sem, regs0, ↓reduceIte, Nat.reduceAdd, Nat.reduceEqDiff, Nat.reduceBEq, Nat.reduceBNe, Nat.reduceLeDiff, Nat.reduceLT, reduceCtorEq, decide_true, decide_false, List.length_map, Int.reduceLT, Int.reduceLE, Int.reduceBEq, Int.reduceAdd, Int.reduceSub, Int.reduceToNat]
    · simp only [go_sem, regs0, ↓reduceIte, Nat.reduceAdd, Nat.reduceEqDiff, Nat.reduceBEq, Nat.reduceBNe, Nat.reduceLeDiff, Nat.reduceLT, reduceCtorEq, decide_true, decide_false, List.length_map, Int.reduceLT, Int.reduceLE, Int.reduceBEq, Int.reduceAdd, Int.reduceSub, Int.reduceToNat]
    · simp only [go_sem, regs0, ↓reduceIte, Nat.reduceAdd, Nat.reduceEqDiff, Nat.reduceBEq, Nat.reduceBNe, Nat.reduceLeDiff, Nat.reduceLT, reduceCtorEq, decide_true, decide_false, List.length_map, Int.reduceLT, Int.reduceLE, Int.reduceBEq, Int.reduceAdd, Int.reduceSub, Int.reduceToNat]
    · simp only [go_sem, regs0, ↓reduceIte, Nat.reduceAdd, Nat.reduceEqDiff, Nat.reduceBEq, Nat.reduceBNe, Nat.reduceLeDiff, Nat.reduceLT, reduceCtorEq, decide_true, decide_false, List.length_map, Int.reduceLT, Int.reduceLE, Int.reduceBEq, Int.reduceAdd, Int.reduceSub, Int.reduceToNat]
    rintro e s3 ⟨K3, rfl, h27, hga⟩
    have p9 := K3.reg 9 rfl
    have p11 := K3.reg 11 rfl
    have p17 := K3.reg 17 rfl
    have p25 := K3.reg 25 rfl
    have p26 := K3.reg 26 rfl
    clear K3
    simp only [go_sem, regs0, ↓reduceIte, Nat.reduceAdd, Nat.reduceEqDiff, Nat.reduceBEq, Nat.reduceBNe, Nat.reduceLeDiff, Nat.reduceLT, reduceCtorEq, decide_true, decide_false, List.length_map, Int.reduceLT, Int.reduceLE, Int.reduceBEq, Int.reduceAdd, Int.reduceSub, Int.reduceToNat, q9, q11, q17, hab2] at p9 p11 p17 p25 p26
    have hwc : IntKind.i64.wrap (((dueL node kind true l.list.l).length : Int) + ((dueL node kind false l.list.l).length : Int)) = ((l.list.l.filter fun z => z.type_ == kind && z.node == node).length : Int) := by
      have h1 := hdl true
      have h2 := hdl false
      rw [← hcnt, IntKind.wrap_i64]; omega
    simp only [go_sem, regs0, ↓reduceIte, Nat.reduceAdd, Nat.reduceEqDiff, Nat.reduceBEq, Nat.reduceBNe, Nat.reduceLeDiff, Nat.reduceLT, reduceCtorEq, decide_true, decide_false, List.length_map, Int.reduceLT, Int.reduceLE, Int.reduceBEq, Int.reduceAdd, Int.reduceSub, Int.reduceToNat, p9, p11, p17, p25, p26, h27, hga, hwc, beq_self_eq_true]
    repeat' (first | (refine WGuard_splitN (fun hc => ?_) (fun hc => ?_) <;> (try simp only [go_sem, regs0, ↓reduceIte, Nat.reduceAdd, Nat.reduceEqDiff, Nat.reduceBEq, Nat.reduceBNe, Nat.reduceLeDiff, Nat.reduceLT, reduceCtorEq, decide_true, decide_false, List.length_map, Int.reduceLT, Int.reduceLE, Int.reduceBEq, Int.reduceAdd, Int.reduceSub, Int.reduceToNat, hc, p9, p11, p17, p25, p26, h27, hga, hwc, beq_self_eq_true])) | (refine WBr_splitN (fun hc => ?_) (fun hc => ?_) <;> (try simp only [go_sem, regs0, ↓reduceIte, Nat.reduceAdd, Nat.reduceEqDiff, Nat.reduceBEq, Nat.reduceBNe, Nat.reduceLeDiff, Nat.reduceLT, reduceCtorEq, decide_true, decide_false, List.length_map, Int.reduceLT, Int.reduceLE, Int.reduceBEq, Int.reduceAdd, Int.reduceSub, Int.reduceToNat, hc, p9, p11, p17, p25, p26, h27, hga, hwc, beq_self_eq_true])) | (refine WGuard_split (fun hc => ?_) (fun hc => ?_) <;> (try simp only [go_sem, regs0, ↓reduceIte, Nat.reduceAdd, Nat.reduceEqDiff, Nat.reduceBEq, Nat.reduceBNe, Nat.reduceLeDiff, Nat.reduceLT, reduceCtorEq, decide_true, decide_false, List.length_map, Int.reduceLT, Int.reduceLE, Int.reduceBEq, Int.reduceAdd, Int.reduceSub, Int.reduceToNat, hc, p9, p11, p17, p25, p26, h27, hga, hwc, beq_self_eq_true])) | (refine WBr_split (fun hc => ?_) (fun hc => ?_) <;> (try simp only [go_sem, regs0, ↓reduceIte, Nat.reduceAdd, Nat.reduceEqDiff, Nat.reduceBEq, Nat.reduceBNe, Nat.reduceLeDiff, Nat.reduceLT, reduceCtorEq, decide_true, decide_false, List.length_map, Int.reduceLT, Int.reduceLE, Int.reduceBEq, Int.reduceAdd, Int.reduceSub, Int.reduceToNat, hc, p9, p11, p17, p25, p26, h27, hga, hwc, beq_self_eq_true])))
    all_goals trace_state
  · rw [due_no hc] at c1 c2 c3 c4
    have hcb : (check l == 0) = false := by simpa using hc
    simp only [go_sem, regs0, ↓reduceIte, Nat.reduceAdd, Nat.reduceEqDiff, Nat.reduceBEq, Nat.reduceBNe, Nat.reduceLeDiff, Nat.reduceLT, reduceCtorEq, decide_true, decide_false, List.length_map, Int.reduceLT, Int.reduceLE, Int.reduceBEq, Int.reduceAdd, Int.reduceSub, Int.reduceToNat, c1, c2, c3, c4, hcb, check_spec, lives_true, Bool.not_true, Bool.not_false, beq_self_eq_true]
    repeat' (first | (refine WGuard_splitN (fun hc => ?_) (fun hc => ?_) <;> (try simp only [go_sem, regs0, ↓reduceIte, Nat.reduceAdd, Nat.reduceEqDiff, Nat.reduceBEq, Nat.reduceBNe, Nat.reduceLeDiff, Nat.reduceLT, reduceCtorEq, decide_true, decide_false, List.length_map, Int.reduceLT, Int.reduceLE, Int.reduceBEq, Int.reduceAdd, Int.reduceSub, Int.reduceToNat, hc, c1, c2, c3, c4, hcb, check_spec, lives_true, Bool.not_true, Bool.not_false, beq_self_eq_true])) | (refine WBr_splitN (fun hc => ?_) (fun hc => ?_) <;> (try simp only [go_sem, regs0, ↓reduceIte, Nat.reduceAdd, Nat.reduceEqDiff, Nat.reduceBEq, Nat.reduceBNe, Nat.reduceLeDiff, Nat.reduceLT, reduceCtorEq, decide_true, decide_false, List.length_map, Int.reduceLT, Int.reduceLE, Int.reduceBEq, Int.reduceAdd, Int.reduceSub, Int.reduceToNat, hc, c1, c2, c3, c4, hcb, check_spec, lives_true, Bool.not_true, Bool.not_false, beq_self_eq_true])) | (refine WGuard_split (fun hc => ?_) (fun hc => ?_) <;> (try simp only [go_sem, regs0, ↓reduceIte, Nat.reduceAdd, Nat.reduceEqDiff, Nat.reduceBEq, Nat.reduceBNe, Nat.reduceLeDiff, Nat.reduceLT, reduceCtorEq, decide_true, decide_false, List.length_map, Int.reduceLT, Int.reduceLE, Int.reduceBEq, Int.reduceAdd, Int.reduceSub, Int.reduceToNat, hc, c1, c2, c3, c4, hcb, check_spec, lives_true, Bool.not_true, Bool.not_false, beq_self_eq_true])) | (refine WBr_split (fun hc => ?_) (fun hc => ?_) <;> (try simp only [go_sem, regs0, ↓reduceIte, Nat.reduceAdd, Nat.reduceEqDiff, Nat.reduceBEq, Nat.reduceBNe, Nat.reduceLeDiff, Nat.reduceLT, reduceCtorEq, decide_true, decide_false, List.length_map, Int.reduceLT, Int.reduceLE, Int.reduceBEq, Int.reduceAdd, Int.reduceSub, Int.reduceToNat, hc, c1, c2, c3, c4, hcb, check_spec, lives_true, Bool.not_true, Bool.not_false, beq_self_eq_true])))
    all_goals trace_state
theorem lawListenAll (l : Listeners) (node : Int) (kind : List UInt8) (signal : Int) (_ : Listeners.ok l) (_ : IntKind.i64.min ≤ node ∧ node ≤ IntKind.i64.max) (_ : kind.length ≤ maxLen) (_ : IntKind.i64.min ≤ signal ∧ signal ≤ IntKind.i64.max) (_ : D.bulkAll [eListeners l, .int .i64 node, .str kind, .int .i64 signal] ≤ 1048576) : pc prog 6 [eListeners l, .int .i64 node, .str kind, .int .i64 signal] = some (.bool true) :=
  law_all l node kind signal
end Go.Proofs.Ytnijbejobbajfaa.L
