/- Shaken copy of a longer text: what one law needs. Its conditions: none. -/
import Derived.Test.YtnijbejobbajfaaZDSpListen4
set_option linter.unusedSimpArgs false
set_option linter.unusedVariables false
set_option linter.unusedSectionVars false
set_option linter.unnecessarySimpa false
namespace Go.Proofs.Ytnijbejobbajfaa.D
open Go.AI
theorem kept_pure {fv : V} {p : Listener → Bool} {h : Heap} (t : Tells prog fv eListener p h) (l : Listeners) (hl : l.list.l.length ≤ 2 ^ 31) :
    ∃ v h2, ans prog (.d (.fn 60)) [.d (eListeners l), fv] h = some (v, h2) ∧ ∃ lv, v = V.ofCells [lv, .d (.int .i64 (next l))] ∧ Grow h.next 8 h2 lv ((l.list.l.filter p).map fun x => V.d (eListener x)) ∧ Le h h2 := by
  obtain ⟨v, h2, e, lv, hv, hg, hI, _⟩ := kept_spec t.steps () Le.refl l hl
  rw [keptS_filter] at hg
  exact ⟨v, h2, e, lv, hv, hg, hI⟩
def some_ (l : List Listener) : Sl Listener := ⟨l.isEmpty, l⟩
theorem check_len {l : Listeners} (h : check l = 0) : l.list.l.length ≤ 1024 := by
  unfold check at h
  split at h
  · omega
  · split at h
    · cases h
    · omega
theorem expire_tells (h : Heap) (a : Nat) (id : Int) (ha : a < h.next) (h1 : h.get a = some (.els 1 [.d (.int .i64 id)] 0)) : Tells prog (.clo 71 [] [.ptr a 0 0]) eListener (fun x => !(x.id == id)) h := by
  intro g x hle
  have g1 := (hle.get a ha).trans h1
  have ha' := Nat.lt_of_lt_of_le ha hle.next
  refine clo_of (fn := c71) rfl rfl ?_
  delta c71
  simp only [go_sem, regs0, ↓reduceIte, Nat.reduceAdd, Nat.reduceEqDiff, Nat.reduceBEq, Nat.reduceBNe, Nat.reduceLeDiff, Nat.reduceLT, reduceCtorEq, decide_true, decide_false, List.length_map, Int.reduceLT, Int.reduceLE, Int.reduceBEq, Int.reduceAdd, Int.reduceSub, Int.reduceToNat, g1, low_ne (Nat.le_refl g.next), low_ne' (Nat.le_refl g.next), ha', true_and]
  first | exact Le.refl | (repeat' (first | exact Le.refl | assumption | apply Le.bump | (apply Le.put (hb := by (try simp only [Heap.bump_next, Heap.put_next]); omega)) | (apply Le.del (hb := by (try simp only [Heap.bump_next, Heap.put_next]); omega))))
def expire (l : Listeners) (id : Int) : Listeners × Bool × Int :=
  if check l = 0 then (⟨some_ (l.list.l.filter fun x => !(x.id == id)), next l⟩, decide ((l.list.l.filter fun x => !(x.id == id)).length < l.list.l.length), 0) else (.zero, false, check l)
theorem expire_spec (l : Listeners) (id : Int) : pc prog 34 [eListeners l, .int .i64 id] = some (.tuple [eListeners (expire l id).1, .bool (expire l id).2.1, .int .i64 (expire l id).2.2]) := by
  refine pc_of (fn := c34) rfl rfl ?_
  delta c34
  simp only [go_sem, regs0, ↓reduceIte, Nat.reduceAdd, Nat.reduceEqDiff, Nat.reduceBEq, Nat.reduceBNe, Nat.reduceLeDiff, Nat.reduceLT, reduceCtorEq, decide_true, decide_false, List.length_map, Int.reduceLT, Int.reduceLE, Int.reduceBEq, Int.reduceAdd, Int.reduceSub, Int.reduceToNat, check_spec]
  repeat' (first | (refine WGuard_splitN (fun hc => ?_) (fun hc => ?_) <;> (try simp only [go_sem, regs0, ↓reduceIte, Nat.reduceAdd, Nat.reduceEqDiff, Nat.reduceBEq, Nat.reduceBNe, Nat.reduceLeDiff, Nat.reduceLT, reduceCtorEq, decide_true, decide_false, List.length_map, Int.reduceLT, Int.reduceLE, Int.reduceBEq, Int.reduceAdd, Int.reduceSub, Int.reduceToNat, hc, check_spec])) | (refine WBr_splitN (fun hc => ?_) (fun hc => ?_) <;> (try simp only [go_sem, regs0, ↓reduceIte, Nat.reduceAdd, Nat.reduceEqDiff, Nat.reduceBEq, Nat.reduceBNe, Nat.reduceLeDiff, Nat.reduceLT, reduceCtorEq, decide_true, decide_false, List.length_map, Int.reduceLT, Int.reduceLE, Int.reduceBEq, Int.reduceAdd, Int.reduceSub, Int.reduceToNat, hc, check_spec])) | (refine WGuard_split (fun hc => ?_) (fun hc => ?_) <;> (try simp only [go_sem, regs0, ↓reduceIte, Nat.reduceAdd, Nat.reduceEqDiff, Nat.reduceBEq, Nat.reduceBNe, Nat.reduceLeDiff, Nat.reduceLT, reduceCtorEq, decide_true, decide_false, List.length_map, Int.reduceLT, Int.reduceLE, Int.reduceBEq, Int.reduceAdd, Int.reduceSub, Int.reduceToNat, hc, check_spec])) | (refine WBr_split (fun hc => ?_) (fun hc => ?_) <;> (try simp only [go_sem, regs0, ↓reduceIte, Nat.reduceAdd, Nat.reduceEqDiff, Nat.reduceBEq, Nat.reduceBNe, Nat.reduceLeDiff, Nat.reduceLT, reduceCtorEq, decide_true, decide_false, List.length_map, Int.reduceLT, Int.reduceLE, Int.reduceBEq, Int.reduceAdd, Int.reduceSub, Int.reduceToNat, hc, check_spec])))
  · have hc : ¬ check l = 0 := by simpa using hc
    simp only [expire, if_neg hc, eListeners, Listeners.zero, List.map_nil]
  · have hc : check l = 0 := by simpa using hc
    have hl := check_len hc
    refine WVal_callE (kept_pure (expire_tells _ 1 id ?_ ?_) l (by omega)) ?_
    · simp only [go_sem, regs0, ↓reduceIte, Nat.reduceAdd, Nat.reduceEqDiff, Nat.reduceBEq, Nat.reduceBNe, Nat.reduceLeDiff, Nat.reduceLT, reduceCtorEq, decide_true, decide_false, List.length_map, Int.reduceLT, Int.reduceLE, Int.reduceBEq, Int.reduceAdd, Int.reduceSub, Int.reduceToNat]
    · simp only [go_sem, regs0, ↓reduceIte, Nat.reduceAdd, Nat.reduceEqDiff, Nat.reduceBEq, Nat.reduceBNe, Nat.reduceLeDiff, Nat.reduceLT, reduceCtorEq, decide_true, decide_false, List.length_map, Int.reduceLT, Int.reduceLE, Int.reduceBEq, Int.reduceAdd, Int.reduceSub, Int.reduceToNat]
    rintro v h2 ⟨lv, rfl, hg, hle⟩
    have g0 := hle.get 0 (by simp only [go_sem, regs0, ↓reduceIte, Nat.reduceAdd, Nat.reduceEqDiff, Nat.reduceBEq, Nat.reduceBNe, Nat.reduceLeDiff, Nat.reduceLT, reduceCtorEq, decide_true, decide_false, List.length_map, Int.reduceLT, Int.reduceLE, Int.reduceBEq, Int.reduceAdd, Int.reduceSub, Int.reduceToNat])
    have g2 := hle.get 2 (by simp only [go_sem, regs0, ↓reduceIte, Nat.reduceAdd, Nat.reduceEqDiff, Nat.reduceBEq, Nat.reduceBNe, Nat.reduceLeDiff, Nat.reduceLT, reduceCtorEq, decide_true, decide_false, List.length_map, Int.reduceLT, Int.reduceLE, Int.reduceBEq, Int.reduceAdd, Int.reduceSub, Int.reduceToNat])
    have hn := hle.next
    simp only [go_sem, regs0, ↓reduceIte, Nat.reduceAdd, Nat.reduceEqDiff, Nat.reduceBEq, Nat.reduceBNe, Nat.reduceLeDiff, Nat.reduceLT, reduceCtorEq, decide_true, decide_false, List.length_map, Int.reduceLT, Int.reduceLE, Int.reduceBEq, Int.reduceAdd, Int.reduceSub, Int.reduceToNat] at g0 g2 hn
    rcases hg with ⟨ha, rfl⟩ | ⟨b, rfl, hb1, hb2, hb3, hb4⟩
    · have ha : (l.list.l.filter fun x => !(x.id == id)) = [] := by simpa using ha
      simp only [go_sem, regs0, ↓reduceIte, Nat.reduceAdd, Nat.reduceEqDiff, Nat.reduceBEq, Nat.reduceBNe, Nat.reduceLeDiff, Nat.reduceLT, reduceCtorEq, decide_true, decide_false, List.length_map, Int.reduceLT, Int.reduceLE, Int.reduceBEq, Int.reduceAdd, Int.reduceSub, Int.reduceToNat, g0, g2, low_ne hn, low_ne' hn, expire, if_pos hc, some_, ha, eListeners]
      simp
    · have hb4 : (l.list.l.filter fun x => !(x.id == id)) ≠ [] := by simpa using hb4
      have hbne : ∀ j, (b = h2.next + j) = False := fun j => by simp; omega
      simp only [go_sem, regs0, ↓reduceIte, Nat.reduceAdd, Nat.reduceEqDiff, Nat.reduceBEq, Nat.reduceBNe, Nat.reduceLeDiff, Nat.reduceLT, reduceCtorEq, decide_true, decide_false, List.length_map, Int.reduceLT, Int.reduceLE, Int.reduceBEq, Int.reduceAdd, Int.reduceSub, Int.reduceToNat] at hb1
      have hb0 : ∀ j, j < 14 → (b = j) = False := fun j hj => by simp; omega
      have h0b : ∀ j, j < 14 → (j = b) = False := fun j hj => by simp; omega
      simp only [go_sem, regs0, ↓reduceIte, Nat.reduceAdd, Nat.reduceEqDiff, Nat.reduceBEq, Nat.reduceBNe, Nat.reduceLeDiff, Nat.reduceLT, reduceCtorEq, decide_true, decide_false, List.length_map, Int.reduceLT, Int.reduceLE, Int.reduceBEq, Int.reduceAdd, Int.reduceSub, Int.reduceToNat, g0, g2, low_ne hn, low_ne' hn, hb0, h0b, Reads_eq, hb3, resB_mapF, expire, if_pos hc, some_, eListeners, List.isEmpty_eq_false_iff.2 hb4]
      simp
end Go.Proofs.Ytnijbejobbajfaa.D
