/- The law ListenTakes. Its conditions: none. -/
import Derived.Test.YtnijbejobbajfaaSpDues
set_option linter.unusedSimpArgs false
set_option linter.unusedVariables false
set_option linter.unusedSectionVars false
set_option linter.unnecessarySimpa false
namespace Go.Proofs.Ytnijbejobbajfaa.L
open Go.AI
theorem chk_all {nx : Int} : ∀ (l pre : List Listener) (last : Int), chk nx pre last l = true → ∀ z ∈ l, last < z.id ∧ z.id < nx ∧ ∀ p ∈ pre, alike z p = false
  | [], _, _, _, z, hz => by cases hz
  | y :: r, pre, last, h, z, hz => by
    simp only [chk, Bool.and_eq_true] at h
    obtain ⟨ho, hr⟩ := h
    have hy : last < y.id ∧ y.id < nx ∧ ∀ p ∈ pre, alike y p = false := by
      simp only [okL, Bool.and_eq_true, decide_eq_true_eq] at ho
      obtain ⟨⟨⟨⟨⟨⟨o1, o2⟩, o3⟩, o4⟩, o5⟩, o6⟩, o7⟩ := ho
      refine ⟨o1, o2, fun p hp => ?_⟩
      have h0 : ¬ pre.any (alike y) = true := fun hh => by have := (find_any y pre 0 (by omega)).2 hh; omega
      simp only [List.any_eq_true, not_exists, not_and, Bool.not_eq_true] at h0
      exact h0 p hp
    rcases List.mem_cons.1 hz with rfl | hz
    · exact hy
    · obtain ⟨h1, h2, h3⟩ := chk_all r _ _ hr z hz
      exact ⟨by omega, h2, fun p hp => h3 p (by simp [hp])⟩
theorem like_alike {node : Int} {kind : List UInt8} {cb : Int} {cap : Bool} {y : Listener} : alike ⟨0, node, kind, cb, cap, false, 0, 0⟩ y = likeP node kind cb cap y := by
  simp only [alike, likeP]
  rw [Bool.eq_iff_iff]
  simp only [Bool.and_eq_true, beq_iff_eq]
  constructor <;> (rintro ⟨⟨⟨h1, h2⟩, h3⟩, h4⟩; exact ⟨⟨⟨h1.symm, h2.symm⟩, h3.symm⟩, h4.symm⟩)
theorem like_two {node : Int} {kind : List UInt8} {cb : Int} {cap : Bool} {y z : Listener} (h1 : likeP node kind cb cap y = true) (h2 : likeP node kind cb cap z = true) : alike z y = true := by
  simp only [likeP, Bool.and_eq_true, beq_iff_eq] at h1 h2
  simp only [alike, Bool.and_eq_true, beq_iff_eq]
  obtain ⟨⟨⟨a1, a2⟩, a3⟩, a4⟩ := h1
  obtain ⟨⟨⟨b1, b2⟩, b3⟩, b4⟩ := h2
  exact ⟨⟨⟨b1.trans a1.symm, b2.trans a2.symm⟩, b3.trans a3.symm⟩, b4.trans a4.symm⟩
theorem kept_no {node : Int} {kind : List UInt8} {cb : Int} {cap : Bool} : ∀ (l : List Listener) (s : Int), (∀ z ∈ l, likeP node kind cb cap z = false) → keptS (remStep node kind cb cap) s l = (l, s)
  | [], s, _ => rfl
  | y :: r, s, h => by
    have hy := h y (by simp)
    have hr := kept_no r s fun z hz => h z (by simp [hz])
    simp only [keptS, remStep, hy, Bool.false_eq_true, if_false, if_true]
    rw [show keptS (remStep node kind cb cap) s r = (r, s) from hr]
theorem filter_above {r : List Listener} {id : Int} (h : ∀ z ∈ r, id < z.id) : r.filter (wo_p id) = r := by
  rw [List.filter_eq_self]
  intro z hz
  have := h z hz
  simp only [wo_p, Bool.not_eq_true', beq_eq_false_iff_ne]
  omega
theorem kept_find {nx : Int} {node : Int} {kind : List UInt8} {cb : Int} {cap : Bool} : ∀ (l pre : List Listener) (last s j : Int), chk nx pre last l = true → 0 ≤ j →
    (find ⟨0, node, kind, cb, cap, false, 0, 0⟩ l j < 0 ∧ keptS (remStep node kind cb cap) s l = (l, s)) ∨
    (j ≤ find ⟨0, node, kind, cb, cap, false, 0, 0⟩ l j ∧ ∃ x ∈ l, l[(find ⟨0, node, kind, cb, cap, false, 0, 0⟩ l j - j).toNat]! = x ∧ keptS (remStep node kind cb cap) s l = (l.filter (wo_p x.id), x.id))
  | [], pre, last, s, j, _, _ => by left; simp [find, keptS]
  | y :: r, pre, last, s, j, h, hj => by
    have hall := chk_all r (pre ++ [y]) y.id (by simp only [chk, Bool.and_eq_true] at h; exact h.2)
    by_cases hy : likeP node kind cb cap y = true
    · right
      have hf : find ⟨0, node, kind, cb, cap, false, 0, 0⟩ (y :: r) j = j := by simp only [find, like_alike, hy, if_true]
      rw [hf]
      refine ⟨Int.le_refl _, y, by simp, by simp, ?_⟩
      have hno : ∀ z ∈ r, likeP node kind cb cap z = false := fun z hz => by
        rcases hb : likeP node kind cb cap z with _ | _
        · rfl
        · have := (hall z hz).2.2 y (by simp)
          rw [like_two hy hb] at this; cases this
      have hk := kept_no r y.id hno
      simp only [keptS, remStep, hy, if_true, Bool.false_eq_true, if_false]
      rw [show keptS (remStep node kind cb cap) y.id r = (r, y.id) from hk, List.filter_cons]
      rw [if_neg (by simp [wo_p]), filter_above fun z hz => (hall z hz).1]
    · have hy : likeP node kind cb cap y = false := by simpa using hy
      have hf : find ⟨0, node, kind, cb, cap, false, 0, 0⟩ (y :: r) j = find ⟨0, node, kind, cb, cap, false, 0, 0⟩ r (j + 1) := by simp only [find, like_alike, hy, Bool.false_eq_true, if_false]
      rw [hf]
      rcases kept_find (nx := nx) (node := node) (kind := kind) (cb := cb) (cap := cap) r (pre ++ [y]) y.id s (j + 1) (by simp only [chk, Bool.and_eq_true] at h; exact h.2) (by omega) with ⟨h1, h2⟩ | ⟨h1, x, hx, h3, h2⟩
      · refine .inl ⟨h1, ?_⟩
        simp only [keptS, remStep, hy, Bool.false_eq_true, if_false, if_true]
        rw [show keptS (remStep node kind cb cap) s r = (r, s) from h2]
      · refine .inr ⟨by omega, x, by simp [hx], ?_, ?_⟩
        · rw [show (find ⟨0, node, kind, cb, cap, false, 0, 0⟩ r (j + 1) - j).toNat = (find ⟨0, node, kind, cb, cap, false, 0, 0⟩ r (j + 1) - (j + 1)).toNat + 1 by omega]
          simpa using h3
        · simp only [keptS, remStep, hy, Bool.false_eq_true, if_false, if_true]
          rw [show keptS (remStep node kind cb cap) s r = (r.filter (wo_p x.id), x.id) from h2, List.filter_cons]
          have := (hall x hx).1
          rw [if_pos (by simp [wo_p]; omega)]
theorem remove_same (l : Listeners) (node : Int) (kind : List UInt8) (cb : Int) (cap : Bool) : (remove l node kind cb cap).1.list.l = (removeR l node kind cb cap).1.list.l ∧ (remove l node kind cb cap).1.next = (removeR l node kind cb cap).1.next ∧ (remove l node kind cb cap).2 = (removeR l node kind cb cap).2 := by
  unfold remove removeR
  by_cases hc : check l = 0
  · rw [if_pos hc, if_pos hc]
    have hchk : l.list.l = [] ∨ chk l.next [] 0 l.list.l = true := by
      unfold check at hc
      split at hc
      · rename_i h; left; exact List.length_eq_zero_iff.1 h.1
      · split at hc
        · cases hc
        · right
          split at hc
          · assumption
          · cases hc
    rcases hchk with h | h
    · simp [h, keptS, find, some_]
    · rcases kept_find (node := node) (kind := kind) (cb := cb) (cap := cap) l.list.l [] 0 0 0 h (by omega) with ⟨h1, h2⟩ | ⟨h1, x, hx, h3, h2⟩
      · simp only [h1, if_true, h2, some_, and_self]
      · rw [show (find ⟨0, node, kind, cb, cap, false, 0, 0⟩ l.list.l 0 - 0) = find ⟨0, node, kind, cb, cap, false, 0, 0⟩ l.list.l 0 by omega] at h3
        simp only [h2, h3, if_neg (show ¬ (find ⟨0, node, kind, cb, cap, false, 0, 0⟩ l.list.l 0 < 0) by omega), some_, and_self]
  · rw [if_neg hc, if_neg hc, check_two hc]
    exact ⟨rfl, rfl, rfl⟩
theorem same_eq (a b : Listeners) (h1 : a.list.l = b.list.l) (h2 : a.next = b.next) (hl : b.list.l.length ≤ 2 ^ 47) : pc prog 20 [eListeners a, eListeners b] = some (.bool true) := by
  obtain ⟨⟨n, l⟩, k⟩ := a
  obtain ⟨⟨m, l'⟩, k'⟩ := b
  obtain rfl : l = l' := h1
  obtain rfl : k = k' := h2
  exact same_true n m l k hl
theorem kept_le {T σ : Type} (step : σ → T → Bool × σ) : ∀ (l : List T) (s : σ), (keptS step s l).1.length ≤ l.length
  | [], s => by simp [keptS]
  | x :: r, s => by
    have := kept_le step r (step s x).2
    simp only [keptS]
    split <;> simp <;> omega
theorem removeR_le (l : Listeners) (node : Int) (kind : List UInt8) (cb : Int) (cap : Bool) : (removeR l node kind cb cap).1.list.l.length ≤ l.list.l.length := by
  rw [← (remove_same l node kind cb cap).1]
  unfold remove
  split
  · exact kept_le _ _ _
  · simp [Listeners.zero]
theorem abort_le (l : Listeners) (id : Int) : (abort l id).1.list.l.length ≤ l.list.l.length := by
  unfold abort
  split
  · exact List.length_filter_le _ _
  · simp [Listeners.zero]
theorem expire_le (l : Listeners) (id : Int) : (expire l id).1.list.l.length ≤ l.list.l.length := by
  unfold expire
  split
  · exact List.length_filter_le _ _
  · simp [Listeners.zero]
set_option maxRecDepth 100000 in
theorem law_takes (l : Listeners) (x : Listener) (signal : Int) (hl : l.list.l.length ≤ 2 ^ 31) : pc prog 7 [eListeners l, eListener x, .int .i64 signal] = some (.bool true) := by
  have hroom : l.list.l.length * 56 ≤ AI.roomBytes := room_le (n := l.list.l.length) (bytes := 56) (by omega) (by decide)
  have hs := remove_same l x.node x.type_ x.callback x.capture
  have s1 := same_eq _ _ hs.1 hs.2.1 (Nat.le_trans (removeR_le l x.node x.type_ x.callback x.capture) (by omega))
  have s2 := same_eq (abort l signal).1 (abort l signal).1 rfl rfl (Nat.le_trans (abort_le l signal) (by omega))
  have s3 := same_eq (expire l signal).1 (expire l signal).1 rfl rfl (Nat.le_trans (expire_le l signal) (by omega))
  have s4 := same_eq ⟨⟨false, l.list.l⟩, l.next⟩ l rfl rfl (by omega)
  have c1 := remove_spec ⟨⟨false, l.list.l⟩, l.next⟩ x.node x.type_ x.callback x.capture
  have c2 := abort_spec ⟨⟨false, l.list.l⟩, l.next⟩ signal
  have c3 := expire_spec ⟨⟨false, l.list.l⟩, l.next⟩ signal
  rw [show remove ⟨⟨false, l.list.l⟩, l.next⟩ x.node x.type_ x.callback x.capture = remove l x.node x.type_ x.callback x.capture from rfl] at c1
  rw [show abort ⟨⟨false, l.list.l⟩, l.next⟩ signal = abort l signal from rfl] at c2
  rw [show expire ⟨⟨false, l.list.l⟩, l.next⟩ signal = expire l signal from rfl] at c3
  have hp : D.agg [.list false (l.list.l.map eListener), .int .i64 l.next] = eListeners ⟨⟨false, l.list.l⟩, l.next⟩ := rfl
  refine pc_of (fn := c7) rfl rfl ?_
  delta c7
  simp only [go_sem, regs0, ↓reduceIte, Nat.reduceAdd, Nat.reduceEqDiff, Nat.reduceBEq, Nat.reduceBNe, Nat.reduceLeDiff, Nat.reduceLT, reduceCtorEq, decide_true, decide_false, List.length_map, Int.reduceLT, Int.reduceLE, Int.reduceBEq, Int.reduceAdd, Int.reduceSub, Int.reduceToNat, appV_eq]
  by_cases hne : l.list.l = []
  · have hp0 : D.agg [.list false [], .int .i64 l.next] = eListeners ⟨⟨false, l.list.l⟩, l.next⟩ := by rw [hne]; rfl
    simp only [hne, List.map_nil]
    rw [appO_none rfl]
    simp only [go_sem, regs0, ↓reduceIte, Nat.reduceAdd, Nat.reduceEqDiff, Nat.reduceBEq, Nat.reduceBNe, Nat.reduceLeDiff, Nat.reduceLT, reduceCtorEq, decide_true, decide_false, List.length_map, Int.reduceLT, Int.reduceLE, Int.reduceBEq, Int.reduceAdd, Int.reduceSub, Int.reduceToNat, hp0, c1, c2, c3, remove_ref, abort_ref, expire_ref, s1, s2, s3, s4, lives_true, hs.2.2, beq_self_eq_true]
    repeat' (first | (refine WGuard_splitN (fun hc => ?_) (fun hc => ?_) <;> (try simp only [go_sem, regs0, ↓reduceIte, Nat.reduceAdd, Nat.reduceEqDiff, Nat.reduceBEq, Nat.reduceBNe, Nat.reduceLeDiff, Nat.reduceLT, reduceCtorEq, decide_true, decide_false, List.length_map, Int.reduceLT, Int.reduceLE, Int.reduceBEq, Int.reduceAdd, Int.reduceSub, Int.reduceToNat, hc, hp0, c1, c2, c3, remove_ref, abort_ref, expire_ref, s1, s2, s3, s4, lives_true, hs.2.2, beq_self_eq_true])) | (refine WBr_splitN (fun hc => ?_) (fun hc => ?_) <;> (try simp only [go_sem, regs0, ↓reduceIte, Nat.reduceAdd, Nat.reduceEqDiff, Nat.reduceBEq, Nat.reduceBNe, Nat.reduceLeDiff, Nat.reduceLT, reduceCtorEq, decide_true, decide_false, List.length_map, Int.reduceLT, Int.reduceLE, Int.reduceBEq, Int.reduceAdd, Int.reduceSub, Int.reduceToNat, hc, hp0, c1, c2, c3, remove_ref, abort_ref, expire_ref, s1, s2, s3, s4, lives_true, hs.2.2, beq_self_eq_true])) | (refine WGuard_split (fun hc => ?_) (fun hc => ?_) <;> (try simp only [go_sem, regs0, ↓reduceIte, Nat.reduceAdd, Nat.reduceEqDiff, Nat.reduceBEq, Nat.reduceBNe, Nat.reduceLeDiff, Nat.reduceLT, reduceCtorEq, decide_true, decide_false, List.length_map, Int.reduceLT, Int.reduceLE, Int.reduceBEq, Int.reduceAdd, Int.reduceSub, Int.reduceToNat, hc, hp0, c1, c2, c3, remove_ref, abort_ref, expire_ref, s1, s2, s3, s4, lives_true, hs.2.2, beq_self_eq_true])) | (refine WBr_split (fun hc => ?_) (fun hc => ?_) <;> (try simp only [go_sem, regs0, ↓reduceIte, Nat.reduceAdd, Nat.reduceEqDiff, Nat.reduceBEq, Nat.reduceBNe, Nat.reduceLeDiff, Nat.reduceLT, reduceCtorEq, decide_true, decide_false, List.length_map, Int.reduceLT, Int.reduceLE, Int.reduceBEq, Int.reduceAdd, Int.reduceSub, Int.reduceToNat, hc, hp0, c1, c2, c3, remove_ref, abort_ref, expire_ref, s1, s2, s3, s4, lives_true, hs.2.2, beq_self_eq_true])))
  · have hm : ((l.list.l.map eListener).map V.d) ≠ [] := by simpa using hne
    rw [appO_ne hm (eListener_sizedm _), appD_sl]
    have hlm : ((l.list.l.map eListener).map V.d).length = l.list.l.length := by simp
    have hmm : (l.list.l.map eListener).map V.d = l.list.l.map fun y => V.d (eListener y) := by simp
    simp only [go_sem, regs0, ↓reduceIte, Nat.reduceAdd, Nat.reduceEqDiff, Nat.reduceBEq, Nat.reduceBNe, Nat.reduceLeDiff, Nat.reduceLT, reduceCtorEq, decide_true, decide_false, List.length_map, Int.reduceLT, Int.reduceLE, Int.reduceBEq, Int.reduceAdd, Int.reduceSub, Int.reduceToNat, appB_some, hlm, hroom, Nat.zero_add, List.nil_append, hmm, resB_mapF, hp, c1, c2, c3, remove_ref, abort_ref, expire_ref, s1, s2, s3, s4, lives_true, hs.2.2, beq_self_eq_true]
    repeat' (first | (refine WGuard_splitN (fun hc => ?_) (fun hc => ?_) <;> (try simp only [go_sem, regs0, ↓reduceIte, Nat.reduceAdd, Nat.reduceEqDiff, Nat.reduceBEq, Nat.reduceBNe, Nat.reduceLeDiff, Nat.reduceLT, reduceCtorEq, decide_true, decide_false, List.length_map, Int.reduceLT, Int.reduceLE, Int.reduceBEq, Int.reduceAdd, Int.reduceSub, Int.reduceToNat, hc, hp, c1, c2, c3, remove_ref, abort_ref, expire_ref, s1, s2, s3, s4, lives_true, hs.2.2, beq_self_eq_true])) | (refine WBr_splitN (fun hc => ?_) (fun hc => ?_) <;> (try simp only [go_sem, regs0, ↓reduceIte, Nat.reduceAdd, Nat.reduceEqDiff, Nat.reduceBEq, Nat.reduceBNe, Nat.reduceLeDiff, Nat.reduceLT, reduceCtorEq, decide_true, decide_false, List.length_map, Int.reduceLT, Int.reduceLE, Int.reduceBEq, Int.reduceAdd, Int.reduceSub, Int.reduceToNat, hc, hp, c1, c2, c3, remove_ref, abort_ref, expire_ref, s1, s2, s3, s4, lives_true, hs.2.2, beq_self_eq_true])) | (refine WGuard_split (fun hc => ?_) (fun hc => ?_) <;> (try simp only [go_sem, regs0, ↓reduceIte, Nat.reduceAdd, Nat.reduceEqDiff, Nat.reduceBEq, Nat.reduceBNe, Nat.reduceLeDiff, Nat.reduceLT, reduceCtorEq, decide_true, decide_false, List.length_map, Int.reduceLT, Int.reduceLE, Int.reduceBEq, Int.reduceAdd, Int.reduceSub, Int.reduceToNat, hc, hp, c1, c2, c3, remove_ref, abort_ref, expire_ref, s1, s2, s3, s4, lives_true, hs.2.2, beq_self_eq_true])) | (refine WBr_split (fun hc => ?_) (fun hc => ?_) <;> (try simp only [go_sem, regs0, ↓reduceIte, Nat.reduceAdd, Nat.reduceEqDiff, Nat.reduceBEq, Nat.reduceBNe, Nat.reduceLeDiff, Nat.reduceLT, reduceCtorEq, decide_true, decide_false, List.length_map, Int.reduceLT, Int.reduceLE, Int.reduceBEq, Int.reduceAdd, Int.reduceSub, Int.reduceToNat, hc, hp, c1, c2, c3, remove_ref, abort_ref, expire_ref, s1, s2, s3, s4, lives_true, hs.2.2, beq_self_eq_true])))
theorem lawListenTakes (l : Listeners) (x : Listener) (signal : Int) (_ : Listeners.ok l) (_ : Listener.ok x) (_ : IntKind.i64.min ≤ signal ∧ signal ≤ IntKind.i64.max) (hb : D.bulkAll [eListeners l, eListener x, .int .i64 signal] ≤ 1048576) : pc prog 7 [eListeners l, eListener x, .int .i64 signal] = some (.bool true) :=
  law_takes l x signal (by have := len_bulk l [eListener x, .int .i64 signal]; omega)
end Go.Proofs.Ytnijbejobbajfaa.L
