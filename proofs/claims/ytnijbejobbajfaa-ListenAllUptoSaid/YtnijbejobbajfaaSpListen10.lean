/- What the program's Add answers. Its conditions: none. -/
import Derived.Test.YtnijbejobbajfaaSpListen9
set_option linter.unusedSimpArgs false
set_option linter.unusedVariables false
set_option linter.unusedSectionVars false
set_option linter.unnecessarySimpa false
namespace Go.Proofs.Ytnijbejobbajfaa.L
open Go.AI
theorem like_tells (h : Heap) (a : Nat) (x : Listener) (ha : a < h.next) (h1 : h.get a = some (.els 8 [.d (eListener x)] 0)) : Tells prog (.clo 58 [] [.ptr a 0 0]) eListener (alike x) h := by
  intro g y hle
  have g1 := (hle.get a ha).trans h1
  have ha' := Nat.lt_of_lt_of_le ha hle.next
  refine clo_of (fn := c58) rfl rfl ?_
  delta c58
  simp only [go_sem, regs0, ↓reduceIte, Nat.reduceAdd, Nat.reduceEqDiff, Nat.reduceBEq, Nat.reduceBNe, Nat.reduceLeDiff, Nat.reduceLT, reduceCtorEq, decide_true, decide_false, List.length_map, Int.reduceLT, Int.reduceLE, Int.reduceBEq, Int.reduceAdd, Int.reduceSub, Int.reduceToNat, g1, low_ne (Nat.le_refl g.next), low_ne' (Nat.le_refl g.next), ha', true_and, placeOf_spec]
  refine ⟨by simp only [alike, placeOf]; congr 2; rw [Bool.eq_iff_iff]; simp [and_assoc], ?_⟩
  first | exact Le.refl | (repeat' (first | exact Le.refl | assumption | apply Le.bump | (apply Le.put (hb := by (try simp only [Heap.bump_next, Heap.put_next]); omega)) | (apply Le.del (hb := by (try simp only [Heap.bump_next, Heap.put_next]); omega))))
theorem add_prg (l : Listeners) (x : Listener) (root aborted : Bool) : pc prog 17 [eListeners l, eListener x, .bool root, .bool aborted] = some (.tuple [eListeners (add l.list.l.isEmpty l x root aborted).1, .int .i64 (add l.list.l.isEmpty l x root aborted).2.1, .int .i64 (add l.list.l.isEmpty l x root aborted).2.2]) := by
  refine pc_of (fn := c17) rfl rfl ?_
  delta c17
  simp only [go_sem, regs0, ↓reduceIte, Nat.reduceAdd, Nat.reduceEqDiff, Nat.reduceBEq, Nat.reduceBNe, Nat.reduceLeDiff, Nat.reduceLT, reduceCtorEq, decide_true, decide_false, List.length_map, Int.reduceLT, Int.reduceLE, Int.reduceBEq, Int.reduceAdd, Int.reduceSub, Int.reduceToNat, check_spec]
  by_cases hc0 : check l = 0
  · have hl := check_len hc0
    simp only [go_sem, regs0, ↓reduceIte, Nat.reduceAdd, Nat.reduceEqDiff, Nat.reduceBEq, Nat.reduceBNe, Nat.reduceLeDiff, Nat.reduceLT, reduceCtorEq, decide_true, decide_false, List.length_map, Int.reduceLT, Int.reduceLE, Int.reduceBEq, Int.reduceAdd, Int.reduceSub, Int.reduceToNat, check_spec, hc0]
    refine WVal_callE (kept_pure (all_tells _) l (by omega)) ?_
    rintro v H ⟨lv, rfl, hg, hle⟩
    rw [show (l.list.l.filter fun _ => true) = l.list.l by simp] at hg
    have g0 := hle.get 0 (by simp only [go_sem, regs0, ↓reduceIte, Nat.reduceAdd, Nat.reduceEqDiff, Nat.reduceBEq, Nat.reduceBNe, Nat.reduceLeDiff, Nat.reduceLT, reduceCtorEq, decide_true, decide_false, List.length_map, Int.reduceLT, Int.reduceLE, Int.reduceBEq, Int.reduceAdd, Int.reduceSub, Int.reduceToNat])
    have g1 := hle.get 1 (by simp only [go_sem, regs0, ↓reduceIte, Nat.reduceAdd, Nat.reduceEqDiff, Nat.reduceBEq, Nat.reduceBNe, Nat.reduceLeDiff, Nat.reduceLT, reduceCtorEq, decide_true, decide_false, List.length_map, Int.reduceLT, Int.reduceLE, Int.reduceBEq, Int.reduceAdd, Int.reduceSub, Int.reduceToNat])
    have g2 := hle.get 2 (by simp only [go_sem, regs0, ↓reduceIte, Nat.reduceAdd, Nat.reduceEqDiff, Nat.reduceBEq, Nat.reduceBNe, Nat.reduceLeDiff, Nat.reduceLT, reduceCtorEq, decide_true, decide_false, List.length_map, Int.reduceLT, Int.reduceLE, Int.reduceBEq, Int.reduceAdd, Int.reduceSub, Int.reduceToNat])
    have hn := hle.next
    simp only [go_sem, regs0, ↓reduceIte, Nat.reduceAdd, Nat.reduceEqDiff, Nat.reduceBEq, Nat.reduceBNe, Nat.reduceLeDiff, Nat.reduceLT, reduceCtorEq, decide_true, decide_false, List.length_map, Int.reduceLT, Int.reduceLE, Int.reduceBEq, Int.reduceAdd, Int.reduceSub, Int.reduceToNat] at g0 g1 g2 hn
    clear hle
    simp only [go_sem, regs0, ↓reduceIte, Nat.reduceAdd, Nat.reduceEqDiff, Nat.reduceBEq, Nat.reduceBNe, Nat.reduceLeDiff, Nat.reduceLT, reduceCtorEq, decide_true, decide_false, List.length_map, Int.reduceLT, Int.reduceLE, Int.reduceBEq, Int.reduceAdd, Int.reduceSub, Int.reduceToNat] at hg
    rcases hg with ⟨ha, rfl⟩ | ⟨b, rfl, hb1, hb2, hb3, hb4⟩
    · have ha : l.list.l = [] := by simpa using ha
      simp only [go_sem, regs0, ↓reduceIte, Nat.reduceAdd, Nat.reduceEqDiff, Nat.reduceBEq, Nat.reduceBNe, Nat.reduceLeDiff, Nat.reduceLT, reduceCtorEq, decide_true, decide_false, List.length_map, Int.reduceLT, Int.reduceLE, Int.reduceBEq, Int.reduceAdd, Int.reduceSub, Int.reduceToNat, low_ne hn, low_ne' hn, g0, g1, g2, List.length_map]
      repeat' (first | (refine WGuard_splitN (fun hc => ?_) (fun hc => ?_) <;> (try simp only [go_sem, regs0, ↓reduceIte, Nat.reduceAdd, Nat.reduceEqDiff, Nat.reduceBEq, Nat.reduceBNe, Nat.reduceLeDiff, Nat.reduceLT, reduceCtorEq, decide_true, decide_false, List.length_map, Int.reduceLT, Int.reduceLE, Int.reduceBEq, Int.reduceAdd, Int.reduceSub, Int.reduceToNat, hc, passive_spec, low_ne hn, low_ne' hn, g0, g1, g2, List.length_map])) | (refine WBr_splitN (fun hc => ?_) (fun hc => ?_) <;> (try simp only [go_sem, regs0, ↓reduceIte, Nat.reduceAdd, Nat.reduceEqDiff, Nat.reduceBEq, Nat.reduceBNe, Nat.reduceLeDiff, Nat.reduceLT, reduceCtorEq, decide_true, decide_false, List.length_map, Int.reduceLT, Int.reduceLE, Int.reduceBEq, Int.reduceAdd, Int.reduceSub, Int.reduceToNat, hc, passive_spec, low_ne hn, low_ne' hn, g0, g1, g2, List.length_map])) | (refine WGuard_split (fun hc => ?_) (fun hc => ?_) <;> (try simp only [go_sem, regs0, ↓reduceIte, Nat.reduceAdd, Nat.reduceEqDiff, Nat.reduceBEq, Nat.reduceBNe, Nat.reduceLeDiff, Nat.reduceLT, reduceCtorEq, decide_true, decide_false, List.length_map, Int.reduceLT, Int.reduceLE, Int.reduceBEq, Int.reduceAdd, Int.reduceSub, Int.reduceToNat, hc, passive_spec, low_ne hn, low_ne' hn, g0, g1, g2, List.length_map])) | (refine WBr_split (fun hc => ?_) (fun hc => ?_) <;> (try simp only [go_sem, regs0, ↓reduceIte, Nat.reduceAdd, Nat.reduceEqDiff, Nat.reduceBEq, Nat.reduceBNe, Nat.reduceLeDiff, Nat.reduceLT, reduceCtorEq, decide_true, decide_false, List.length_map, Int.reduceLT, Int.reduceLE, Int.reduceBEq, Int.reduceAdd, Int.reduceSub, Int.reduceToNat, hc, passive_spec, low_ne hn, low_ne' hn, g0, g1, g2, List.length_map])))
      · rw [add_long hc0 (by simp at hc; omega)]
        simp only [eListeners, Listeners.zero, List.map_nil]
      · rename_i q1 q2
        rw [add_range hc0 (by simp at q1; omega) (by simp at hc; omega)]
        simp only [eListeners, Listeners.zero, List.map_nil]
      · rename_i q1 q2 q3 q4
        have h1 : ¬ 1024 < x.type_.length := by simp at q1; omega
        have h2 : ¬ (x.node < 1 ∨ 3 ≤ x.passive) := by simp at q2 q3; omega
        obtain rfl : aborted = false := q4
        have hcb : ¬ x.callback = 0 := by simpa using hc
        clear q1 q2 q3
        refine WVal_call (lis_contains _ _ (by omega) (like_tells _ 1 x ?_ ?_)) fun H2 hle => ?_
        · simp only [go_sem, regs0, ↓reduceIte, Nat.reduceAdd, Nat.reduceEqDiff, Nat.reduceBEq, Nat.reduceBNe, Nat.reduceLeDiff, Nat.reduceLT, reduceCtorEq, decide_true, decide_false, List.length_map, Int.reduceLT, Int.reduceLE, Int.reduceBEq, Int.reduceAdd, Int.reduceSub, Int.reduceToNat]; omega
        · simp only [go_sem, regs0, ↓reduceIte, Nat.reduceAdd, Nat.reduceEqDiff, Nat.reduceBEq, Nat.reduceBNe, Nat.reduceLeDiff, Nat.reduceLT, reduceCtorEq, decide_true, decide_false, List.length_map, Int.reduceLT, Int.reduceLE, Int.reduceBEq, Int.reduceAdd, Int.reduceSub, Int.reduceToNat, low_ne hn, low_ne' hn, g1]
        have k0 := hle.get 0 (by simp only [go_sem, regs0, ↓reduceIte, Nat.reduceAdd, Nat.reduceEqDiff, Nat.reduceBEq, Nat.reduceBNe, Nat.reduceLeDiff, Nat.reduceLT, reduceCtorEq, decide_true, decide_false, List.length_map, Int.reduceLT, Int.reduceLE, Int.reduceBEq, Int.reduceAdd, Int.reduceSub, Int.reduceToNat]; omega)
        have k1 := hle.get 1 (by simp only [go_sem, regs0, ↓reduceIte, Nat.reduceAdd, Nat.reduceEqDiff, Nat.reduceBEq, Nat.reduceBNe, Nat.reduceLeDiff, Nat.reduceLT, reduceCtorEq, decide_true, decide_false, List.length_map, Int.reduceLT, Int.reduceLE, Int.reduceBEq, Int.reduceAdd, Int.reduceSub, Int.reduceToNat]; omega)
        have k2 := hle.get 2 (by simp only [go_sem, regs0, ↓reduceIte, Nat.reduceAdd, Nat.reduceEqDiff, Nat.reduceBEq, Nat.reduceBNe, Nat.reduceLeDiff, Nat.reduceLT, reduceCtorEq, decide_true, decide_false, List.length_map, Int.reduceLT, Int.reduceLE, Int.reduceBEq, Int.reduceAdd, Int.reduceSub, Int.reduceToNat]; omega)
        have k3 := hle.get 14 (by simp only [go_sem, regs0, ↓reduceIte, Nat.reduceAdd, Nat.reduceEqDiff, Nat.reduceBEq, Nat.reduceBNe, Nat.reduceLeDiff, Nat.reduceLT, reduceCtorEq, decide_true, decide_false, List.length_map, Int.reduceLT, Int.reduceLE, Int.reduceBEq, Int.reduceAdd, Int.reduceSub, Int.reduceToNat]; omega)
        have kn := hle.next
        skip
        simp only [go_sem, regs0, ↓reduceIte, Nat.reduceAdd, Nat.reduceEqDiff, Nat.reduceBEq, Nat.reduceBNe, Nat.reduceLeDiff, Nat.reduceLT, reduceCtorEq, decide_true, decide_false, List.length_map, Int.reduceLT, Int.reduceLE, Int.reduceBEq, Int.reduceAdd, Int.reduceSub, Int.reduceToNat, low_ne hn, low_ne' hn, g0, g1, g2] at k0 k1 k2 k3 kn 
        have hn2 : 16 ≤ H2.next := by omega
        skip
        skip
        clear hle
        simp only [go_sem, regs0, ↓reduceIte, Nat.reduceAdd, Nat.reduceEqDiff, Nat.reduceBEq, Nat.reduceBNe, Nat.reduceLeDiff, Nat.reduceLT, reduceCtorEq, decide_true, decide_false, List.length_map, Int.reduceLT, Int.reduceLE, Int.reduceBEq, Int.reduceAdd, Int.reduceSub, Int.reduceToNat, low_ne hn2, low_ne' hn2, k0, k1, k2, k3, List.length_map]
        repeat' (first | (refine WGuard_splitN (fun hc => ?_) (fun hc => ?_) <;> (try simp only [go_sem, regs0, ↓reduceIte, Nat.reduceAdd, Nat.reduceEqDiff, Nat.reduceBEq, Nat.reduceBNe, Nat.reduceLeDiff, Nat.reduceLT, reduceCtorEq, decide_true, decide_false, List.length_map, Int.reduceLT, Int.reduceLE, Int.reduceBEq, Int.reduceAdd, Int.reduceSub, Int.reduceToNat, hc, passive_spec, low_ne hn2, low_ne' hn2, k0, k1, k2, k3, List.length_map])) | (refine WBr_splitN (fun hc => ?_) (fun hc => ?_) <;> (try simp only [go_sem, regs0, ↓reduceIte, Nat.reduceAdd, Nat.reduceEqDiff, Nat.reduceBEq, Nat.reduceBNe, Nat.reduceLeDiff, Nat.reduceLT, reduceCtorEq, decide_true, decide_false, List.length_map, Int.reduceLT, Int.reduceLE, Int.reduceBEq, Int.reduceAdd, Int.reduceSub, Int.reduceToNat, hc, passive_spec, low_ne hn2, low_ne' hn2, k0, k1, k2, k3, List.length_map])) | (refine WGuard_split (fun hc => ?_) (fun hc => ?_) <;> (try simp only [go_sem, regs0, ↓reduceIte, Nat.reduceAdd, Nat.reduceEqDiff, Nat.reduceBEq, Nat.reduceBNe, Nat.reduceLeDiff, Nat.reduceLT, reduceCtorEq, decide_true, decide_false, List.length_map, Int.reduceLT, Int.reduceLE, Int.reduceBEq, Int.reduceAdd, Int.reduceSub, Int.reduceToNat, hc, passive_spec, low_ne hn2, low_ne' hn2, k0, k1, k2, k3, List.length_map])) | (refine WBr_split (fun hc => ?_) (fun hc => ?_) <;> (try simp only [go_sem, regs0, ↓reduceIte, Nat.reduceAdd, Nat.reduceEqDiff, Nat.reduceBEq, Nat.reduceBNe, Nat.reduceLeDiff, Nat.reduceLT, reduceCtorEq, decide_true, decide_false, List.length_map, Int.reduceLT, Int.reduceLE, Int.reduceBEq, Int.reduceAdd, Int.reduceSub, Int.reduceToNat, hc, passive_spec, low_ne hn2, low_ne' hn2, k0, k1, k2, k3, List.length_map])))
        · rw [add_none hc0 h1 h2 (.inr (.inr hc))]
          simp only [go_sem, regs0, ↓reduceIte, Nat.reduceAdd, Nat.reduceEqDiff, Nat.reduceBEq, Nat.reduceBNe, Nat.reduceLeDiff, Nat.reduceLT, reduceCtorEq, decide_true, decide_false, List.length_map, Int.reduceLT, Int.reduceLE, Int.reduceBEq, Int.reduceAdd, Int.reduceSub, Int.reduceToNat, Reads_eq, eListeners, ha, List.isEmpty_nil, List.map_nil]
        · rw [add_many hc0 h1 h2 (by simp_all) (by simp at hc; omega)]
          simp only [eListeners, Listeners.zero, List.map_nil]
        · have h6 : decide ((1024 : Int) ≤ l.list.l.length) = false := by assumption
          have h7 : decide (1099511627776 ≤ next l) = false := by assumption
          have h6 : ¬ (1024 ≤ l.list.l.length ∨ 1099511627776 ≤ next l) := by simp at h6 h7; omega
          have hx : addX l x root = { id := next l, node := x.node, type_ := x.type_, callback := x.callback, capture := x.capture, once := x.once, passive := passive x.type_ root, signal := x.signal } := by
            have hp : x.passive = 0 := by simpa using hc
            simp only [addX, hp, if_true, if_false]
          rw [add_more hc0 h1 h2 (by simp_all) h6, hx]
          have hnp : 1 ≤ next l := by have := max_next hc0; omega
          have hwn : IntKind.i64.wrap (next l + 1) = next l + 1 := by rw [IntKind.wrap_i64]; omega
          have happ : ∀ X, (l.list.l.map fun y => V.d (eListener y)) ++ [V.d (eListener X)] = (l.list.l ++ [X]).map fun y => V.d (eListener y) := fun X => by simp
          have hone : ∀ n b h X, resB n b 1 h (some (.els 8 [V.d (eListener X)] 0)) = some (.list false [eListener X], AI.freeze h b 1) := fun n b h X => resB_mapF (f := eListener) (xs := [X]) rfl
          have hroom : (l.list.l.length + 1) * 56 ≤ AI.roomBytes := room_le (n := l.list.l.length + 1) (bytes := 56) (by omega) (by decide)
          have hroom1 : 1 * 56 ≤ AI.roomBytes := room_le (n := 1) (bytes := 56) (by decide) (by decide)
          have hlen : (l.list.l.map fun x => V.d (eListener x)).length = l.list.l.length := by simp
          have hne : ∀ i j, i < 16 → (H2.next + j = i) = False := fun i j hi => by simp; omega
          simp only [go_sem, regs0, ↓reduceIte, Nat.reduceAdd, Nat.reduceEqDiff, Nat.reduceBEq, Nat.reduceBNe, Nat.reduceLeDiff, Nat.reduceLT, reduceCtorEq, decide_true, decide_false, List.length_map, Int.reduceLT, Int.reduceLE, Int.reduceBEq, Int.reduceAdd, Int.reduceSub, Int.reduceToNat, appV_eq, appO_one, elsB_one, sized_one, appD_nil, hroom1, hone, low_ne hn2, low_ne' hn2, k0, k1, k2, k3, hne, Reads_eq, hwn, eListeners, happ, resB_mapF, List.length_append, List.length_cons, List.length_nil]
          simp [ha]

        · have h6 : decide ((1024 : Int) ≤ l.list.l.length) = false := by assumption
          have h7 : decide (1099511627776 ≤ next l) = false := by assumption
          have h6 : ¬ (1024 ≤ l.list.l.length ∨ 1099511627776 ≤ next l) := by simp at h6 h7; omega
          have hx : addX l x root = { id := next l, node := x.node, type_ := x.type_, callback := x.callback, capture := x.capture, once := x.once, passive := x.passive, signal := x.signal } := by
            have hp : ¬ x.passive = 0 := by simpa using hc
            simp only [addX, hp, if_true, if_false]
          rw [add_more hc0 h1 h2 (by simp_all) h6, hx]
          have hnp : 1 ≤ next l := by have := max_next hc0; omega
          have hwn : IntKind.i64.wrap (next l + 1) = next l + 1 := by rw [IntKind.wrap_i64]; omega
          have happ : ∀ X, (l.list.l.map fun y => V.d (eListener y)) ++ [V.d (eListener X)] = (l.list.l ++ [X]).map fun y => V.d (eListener y) := fun X => by simp
          have hone : ∀ n b h X, resB n b 1 h (some (.els 8 [V.d (eListener X)] 0)) = some (.list false [eListener X], AI.freeze h b 1) := fun n b h X => resB_mapF (f := eListener) (xs := [X]) rfl
          have hroom : (l.list.l.length + 1) * 56 ≤ AI.roomBytes := room_le (n := l.list.l.length + 1) (bytes := 56) (by omega) (by decide)
          have hroom1 : 1 * 56 ≤ AI.roomBytes := room_le (n := 1) (bytes := 56) (by decide) (by decide)
          have hlen : (l.list.l.map fun x => V.d (eListener x)).length = l.list.l.length := by simp
          have hne : ∀ i j, i < 16 → (H2.next + j = i) = False := fun i j hi => by simp; omega
          simp only [go_sem, regs0, ↓reduceIte, Nat.reduceAdd, Nat.reduceEqDiff, Nat.reduceBEq, Nat.reduceBNe, Nat.reduceLeDiff, Nat.reduceLT, reduceCtorEq, decide_true, decide_false, List.length_map, Int.reduceLT, Int.reduceLE, Int.reduceBEq, Int.reduceAdd, Int.reduceSub, Int.reduceToNat, appV_eq, appO_one, elsB_one, sized_one, appD_nil, hroom1, hone, low_ne hn2, low_ne' hn2, k0, k1, k2, k3, hne, Reads_eq, hwn, eListeners, happ, resB_mapF, List.length_append, List.length_cons, List.length_nil]
          simp [ha]

        · rw [add_many hc0 h1 h2 (by simp_all) (by simp at hc; omega)]
          simp only [eListeners, Listeners.zero, List.map_nil]
      · rename_i q1 q2 q3 q4
        have h1 : ¬ 1024 < x.type_.length := by simp at q1; omega
        have h2 : ¬ (x.node < 1 ∨ 3 ≤ x.passive) := by simp at q2 q3; omega
        have h3 : aborted = true ∨ x.callback = 0 ∨ l.list.l.any (alike x) = true := .inr (.inl (by simpa using hc))
        obtain rfl : aborted = false := q4
        rw [add_none hc0 h1 h2 h3]
        simp only [go_sem, regs0, ↓reduceIte, Nat.reduceAdd, Nat.reduceEqDiff, Nat.reduceBEq, Nat.reduceBNe, Nat.reduceLeDiff, Nat.reduceLT, reduceCtorEq, decide_true, decide_false, List.length_map, Int.reduceLT, Int.reduceLE, Int.reduceBEq, Int.reduceAdd, Int.reduceSub, Int.reduceToNat, Reads_eq, eListeners, ha, List.isEmpty_nil, List.map_nil]
      · rename_i q1 q2 q3
        have h1 : ¬ 1024 < x.type_.length := by simp at q1; omega
        have h2 : ¬ (x.node < 1 ∨ 3 ≤ x.passive) := by simp at q2 q3; omega
        subst hc
        rw [add_none hc0 h1 h2 (.inl rfl)]
        simp only [go_sem, regs0, ↓reduceIte, Nat.reduceAdd, Nat.reduceEqDiff, Nat.reduceBEq, Nat.reduceBNe, Nat.reduceLeDiff, Nat.reduceLT, reduceCtorEq, decide_true, decide_false, List.length_map, Int.reduceLT, Int.reduceLE, Int.reduceBEq, Int.reduceAdd, Int.reduceSub, Int.reduceToNat, Reads_eq, eListeners, ha, List.isEmpty_nil, List.map_nil]
      · rename_i q1
        rw [add_range hc0 (by simp at q1; omega) (by simp at hc; omega)]
        simp only [eListeners, Listeners.zero, List.map_nil]

    · have hb4 : l.list.l.isEmpty = false := by simpa [List.isEmpty_eq_false_iff] using hb4
      have hb0 : ∀ j, j < 16 → (b = j) = False := fun j hj => by simp; omega
      have h0b : ∀ j, j < 16 → (j = b) = False := fun j hj => by simp; omega
      have hbn : ∀ j, (b = H.next + j) = False := fun j => by simp; omega
      have hnb : ∀ j, (H.next + j = b) = False := fun j => by simp; omega
      simp only [go_sem, regs0, ↓reduceIte, Nat.reduceAdd, Nat.reduceEqDiff, Nat.reduceBEq, Nat.reduceBNe, Nat.reduceLeDiff, Nat.reduceLT, reduceCtorEq, decide_true, decide_false, List.length_map, Int.reduceLT, Int.reduceLE, Int.reduceBEq, Int.reduceAdd, Int.reduceSub, Int.reduceToNat, low_ne hn, low_ne' hn, g0, g1, g2, hb3, hb0, h0b, hbn, hnb]
      repeat' (first | (refine WGuard_splitN (fun hc => ?_) (fun hc => ?_) <;> (try simp only [go_sem, regs0, ↓reduceIte, Nat.reduceAdd, Nat.reduceEqDiff, Nat.reduceBEq, Nat.reduceBNe, Nat.reduceLeDiff, Nat.reduceLT, reduceCtorEq, decide_true, decide_false, List.length_map, Int.reduceLT, Int.reduceLE, Int.reduceBEq, Int.reduceAdd, Int.reduceSub, Int.reduceToNat, hc, passive_spec, low_ne hn, low_ne' hn, g0, g1, g2, hb3, hb0, h0b, hbn, hnb])) | (refine WBr_splitN (fun hc => ?_) (fun hc => ?_) <;> (try simp only [go_sem, regs0, ↓reduceIte, Nat.reduceAdd, Nat.reduceEqDiff, Nat.reduceBEq, Nat.reduceBNe, Nat.reduceLeDiff, Nat.reduceLT, reduceCtorEq, decide_true, decide_false, List.length_map, Int.reduceLT, Int.reduceLE, Int.reduceBEq, Int.reduceAdd, Int.reduceSub, Int.reduceToNat, hc, passive_spec, low_ne hn, low_ne' hn, g0, g1, g2, hb3, hb0, h0b, hbn, hnb])) | (refine WGuard_split (fun hc => ?_) (fun hc => ?_) <;> (try simp only [go_sem, regs0, ↓reduceIte, Nat.reduceAdd, Nat.reduceEqDiff, Nat.reduceBEq, Nat.reduceBNe, Nat.reduceLeDiff, Nat.reduceLT, reduceCtorEq, decide_true, decide_false, List.length_map, Int.reduceLT, Int.reduceLE, Int.reduceBEq, Int.reduceAdd, Int.reduceSub, Int.reduceToNat, hc, passive_spec, low_ne hn, low_ne' hn, g0, g1, g2, hb3, hb0, h0b, hbn, hnb])) | (refine WBr_split (fun hc => ?_) (fun hc => ?_) <;> (try simp only [go_sem, regs0, ↓reduceIte, Nat.reduceAdd, Nat.reduceEqDiff, Nat.reduceBEq, Nat.reduceBNe, Nat.reduceLeDiff, Nat.reduceLT, reduceCtorEq, decide_true, decide_false, List.length_map, Int.reduceLT, Int.reduceLE, Int.reduceBEq, Int.reduceAdd, Int.reduceSub, Int.reduceToNat, hc, passive_spec, low_ne hn, low_ne' hn, g0, g1, g2, hb3, hb0, h0b, hbn, hnb])))
      · rw [add_long hc0 (by simp at hc; omega)]
        simp only [eListeners, Listeners.zero, List.map_nil]
      · rename_i q1 q2
        rw [add_range hc0 (by simp at q1; omega) (by simp at hc; omega)]
        simp only [eListeners, Listeners.zero, List.map_nil]
      · rename_i q1 q2 q3 q4
        have h1 : ¬ 1024 < x.type_.length := by simp at q1; omega
        have h2 : ¬ (x.node < 1 ∨ 3 ≤ x.passive) := by simp at q2 q3; omega
        obtain rfl : aborted = false := q4
        have hcb : ¬ x.callback = 0 := by simpa using hc
        clear q1 q2 q3
        refine WVal_call (lis_contains _ _ (by omega) (like_tells _ 1 x ?_ ?_)) fun H2 hle => ?_
        · simp only [go_sem, regs0, ↓reduceIte, Nat.reduceAdd, Nat.reduceEqDiff, Nat.reduceBEq, Nat.reduceBNe, Nat.reduceLeDiff, Nat.reduceLT, reduceCtorEq, decide_true, decide_false, List.length_map, Int.reduceLT, Int.reduceLE, Int.reduceBEq, Int.reduceAdd, Int.reduceSub, Int.reduceToNat]; omega
        · simp only [go_sem, regs0, ↓reduceIte, Nat.reduceAdd, Nat.reduceEqDiff, Nat.reduceBEq, Nat.reduceBNe, Nat.reduceLeDiff, Nat.reduceLT, reduceCtorEq, decide_true, decide_false, List.length_map, Int.reduceLT, Int.reduceLE, Int.reduceBEq, Int.reduceAdd, Int.reduceSub, Int.reduceToNat, low_ne hn, low_ne' hn, g1]
        have k0 := hle.get 0 (by simp only [go_sem, regs0, ↓reduceIte, Nat.reduceAdd, Nat.reduceEqDiff, Nat.reduceBEq, Nat.reduceBNe, Nat.reduceLeDiff, Nat.reduceLT, reduceCtorEq, decide_true, decide_false, List.length_map, Int.reduceLT, Int.reduceLE, Int.reduceBEq, Int.reduceAdd, Int.reduceSub, Int.reduceToNat]; omega)
        have k1 := hle.get 1 (by simp only [go_sem, regs0, ↓reduceIte, Nat.reduceAdd, Nat.reduceEqDiff, Nat.reduceBEq, Nat.reduceBNe, Nat.reduceLeDiff, Nat.reduceLT, reduceCtorEq, decide_true, decide_false, List.length_map, Int.reduceLT, Int.reduceLE, Int.reduceBEq, Int.reduceAdd, Int.reduceSub, Int.reduceToNat]; omega)
        have k2 := hle.get 2 (by simp only [go_sem, regs0, ↓reduceIte, Nat.reduceAdd, Nat.reduceEqDiff, Nat.reduceBEq, Nat.reduceBNe, Nat.reduceLeDiff, Nat.reduceLT, reduceCtorEq, decide_true, decide_false, List.length_map, Int.reduceLT, Int.reduceLE, Int.reduceBEq, Int.reduceAdd, Int.reduceSub, Int.reduceToNat]; omega)
        have k3 := hle.get 14 (by simp only [go_sem, regs0, ↓reduceIte, Nat.reduceAdd, Nat.reduceEqDiff, Nat.reduceBEq, Nat.reduceBNe, Nat.reduceLeDiff, Nat.reduceLT, reduceCtorEq, decide_true, decide_false, List.length_map, Int.reduceLT, Int.reduceLE, Int.reduceBEq, Int.reduceAdd, Int.reduceSub, Int.reduceToNat]; omega)
        have kn := hle.next
        have k4 := hle.get b (by simp only [go_sem, regs0, ↓reduceIte, Nat.reduceAdd, Nat.reduceEqDiff, Nat.reduceBEq, Nat.reduceBNe, Nat.reduceLeDiff, Nat.reduceLT, reduceCtorEq, decide_true, decide_false, List.length_map, Int.reduceLT, Int.reduceLE, Int.reduceBEq, Int.reduceAdd, Int.reduceSub, Int.reduceToNat]; omega)
        simp only [go_sem, regs0, ↓reduceIte, Nat.reduceAdd, Nat.reduceEqDiff, Nat.reduceBEq, Nat.reduceBNe, Nat.reduceLeDiff, Nat.reduceLT, reduceCtorEq, decide_true, decide_false, List.length_map, Int.reduceLT, Int.reduceLE, Int.reduceBEq, Int.reduceAdd, Int.reduceSub, Int.reduceToNat, low_ne hn, low_ne' hn, g0, g1, g2, hb3, hb0, h0b, hbn, hnb] at k0 k1 k2 k3 kn k4
        have hn2 : 16 ≤ H2.next := by omega
        have hbn2 : ∀ j, (b = H2.next + j) = False := fun j => by simp; omega
        have hnb2 : ∀ j, (H2.next + j = b) = False := fun j => by simp; omega
        clear hle
        simp only [go_sem, regs0, ↓reduceIte, Nat.reduceAdd, Nat.reduceEqDiff, Nat.reduceBEq, Nat.reduceBNe, Nat.reduceLeDiff, Nat.reduceLT, reduceCtorEq, decide_true, decide_false, List.length_map, Int.reduceLT, Int.reduceLE, Int.reduceBEq, Int.reduceAdd, Int.reduceSub, Int.reduceToNat, low_ne hn2, low_ne' hn2, k0, k1, k2, k3, k4]
        repeat' (first | (refine WGuard_splitN (fun hc => ?_) (fun hc => ?_) <;> (try simp only [go_sem, regs0, ↓reduceIte, Nat.reduceAdd, Nat.reduceEqDiff, Nat.reduceBEq, Nat.reduceBNe, Nat.reduceLeDiff, Nat.reduceLT, reduceCtorEq, decide_true, decide_false, List.length_map, Int.reduceLT, Int.reduceLE, Int.reduceBEq, Int.reduceAdd, Int.reduceSub, Int.reduceToNat, hc, passive_spec, low_ne hn2, low_ne' hn2, k0, k1, k2, k3, k4])) | (refine WBr_splitN (fun hc => ?_) (fun hc => ?_) <;> (try simp only [go_sem, regs0, ↓reduceIte, Nat.reduceAdd, Nat.reduceEqDiff, Nat.reduceBEq, Nat.reduceBNe, Nat.reduceLeDiff, Nat.reduceLT, reduceCtorEq, decide_true, decide_false, List.length_map, Int.reduceLT, Int.reduceLE, Int.reduceBEq, Int.reduceAdd, Int.reduceSub, Int.reduceToNat, hc, passive_spec, low_ne hn2, low_ne' hn2, k0, k1, k2, k3, k4])) | (refine WGuard_split (fun hc => ?_) (fun hc => ?_) <;> (try simp only [go_sem, regs0, ↓reduceIte, Nat.reduceAdd, Nat.reduceEqDiff, Nat.reduceBEq, Nat.reduceBNe, Nat.reduceLeDiff, Nat.reduceLT, reduceCtorEq, decide_true, decide_false, List.length_map, Int.reduceLT, Int.reduceLE, Int.reduceBEq, Int.reduceAdd, Int.reduceSub, Int.reduceToNat, hc, passive_spec, low_ne hn2, low_ne' hn2, k0, k1, k2, k3, k4])) | (refine WBr_split (fun hc => ?_) (fun hc => ?_) <;> (try simp only [go_sem, regs0, ↓reduceIte, Nat.reduceAdd, Nat.reduceEqDiff, Nat.reduceBEq, Nat.reduceBNe, Nat.reduceLeDiff, Nat.reduceLT, reduceCtorEq, decide_true, decide_false, List.length_map, Int.reduceLT, Int.reduceLE, Int.reduceBEq, Int.reduceAdd, Int.reduceSub, Int.reduceToNat, hc, passive_spec, low_ne hn2, low_ne' hn2, k0, k1, k2, k3, k4])))
        · rw [add_none hc0 h1 h2 (.inr (.inr hc))]
          simp only [go_sem, regs0, ↓reduceIte, Nat.reduceAdd, Nat.reduceEqDiff, Nat.reduceBEq, Nat.reduceBNe, Nat.reduceLeDiff, Nat.reduceLT, reduceCtorEq, decide_true, decide_false, List.length_map, Int.reduceLT, Int.reduceLE, Int.reduceBEq, Int.reduceAdd, Int.reduceSub, Int.reduceToNat, Reads_eq, eListeners, hb4, k4, resB_mapF, hb0, h0b]
        · rw [add_many hc0 h1 h2 (by simp_all) (by simp at hc; omega)]
          simp only [eListeners, Listeners.zero, List.map_nil]
        · have h6 : decide ((1024 : Int) ≤ l.list.l.length) = false := by assumption
          have h7 : decide (1099511627776 ≤ next l) = false := by assumption
          have h6 : ¬ (1024 ≤ l.list.l.length ∨ 1099511627776 ≤ next l) := by simp at h6 h7; omega
          have hx : addX l x root = { id := next l, node := x.node, type_ := x.type_, callback := x.callback, capture := x.capture, once := x.once, passive := passive x.type_ root, signal := x.signal } := by
            have hp : x.passive = 0 := by simpa using hc
            simp only [addX, hp, if_true, if_false]
          rw [add_more hc0 h1 h2 (by simp_all) h6, hx]
          have hnp : 1 ≤ next l := by have := max_next hc0; omega
          have hwn : IntKind.i64.wrap (next l + 1) = next l + 1 := by rw [IntKind.wrap_i64]; omega
          have happ : ∀ X, (l.list.l.map fun y => V.d (eListener y)) ++ [V.d (eListener X)] = (l.list.l ++ [X]).map fun y => V.d (eListener y) := fun X => by simp
          have hone : ∀ n b h X, resB n b 1 h (some (.els 8 [V.d (eListener X)] 0)) = some (.list false [eListener X], AI.freeze h b 1) := fun n b h X => resB_mapF (f := eListener) (xs := [X]) rfl
          have hroom : (l.list.l.length + 1) * 56 ≤ AI.roomBytes := room_le (n := l.list.l.length + 1) (bytes := 56) (by omega) (by decide)
          have hroom1 : 1 * 56 ≤ AI.roomBytes := room_le (n := 1) (bytes := 56) (by decide) (by decide)
          have hlen : (l.list.l.map fun x => V.d (eListener x)).length = l.list.l.length := by simp
          have hne : ∀ i j, i < 16 → (H2.next + j = i) = False := fun i j hi => by simp; omega
          simp only [go_sem, regs0, ↓reduceIte, Nat.reduceAdd, Nat.reduceEqDiff, Nat.reduceBEq, Nat.reduceBNe, Nat.reduceLeDiff, Nat.reduceLT, reduceCtorEq, decide_true, decide_false, List.length_map, Int.reduceLT, Int.reduceLE, Int.reduceBEq, Int.reduceAdd, Int.reduceSub, Int.reduceToNat, appV_eq, appO_one, elsB_one, sized_one, appB_some, hlen, hroom, k4, hb0, h0b, hbn2, hnb2, low_ne hn2, low_ne' hn2, k0, k1, k2, k3, hne, Reads_eq, hwn, eListeners, happ, resB_mapF, List.length_append, List.length_cons, List.length_nil]
          skip

        · have h6 : decide ((1024 : Int) ≤ l.list.l.length) = false := by assumption
          have h7 : decide (1099511627776 ≤ next l) = false := by assumption
          have h6 : ¬ (1024 ≤ l.list.l.length ∨ 1099511627776 ≤ next l) := by simp at h6 h7; omega
          have hx : addX l x root = { id := next l, node := x.node, type_ := x.type_, callback := x.callback, capture := x.capture, once := x.once, passive := x.passive, signal := x.signal } := by
            have hp : ¬ x.passive = 0 := by simpa using hc
            simp only [addX, hp, if_true, if_false]
          rw [add_more hc0 h1 h2 (by simp_all) h6, hx]
          have hnp : 1 ≤ next l := by have := max_next hc0; omega
          have hwn : IntKind.i64.wrap (next l + 1) = next l + 1 := by rw [IntKind.wrap_i64]; omega
          have happ : ∀ X, (l.list.l.map fun y => V.d (eListener y)) ++ [V.d (eListener X)] = (l.list.l ++ [X]).map fun y => V.d (eListener y) := fun X => by simp
          have hone : ∀ n b h X, resB n b 1 h (some (.els 8 [V.d (eListener X)] 0)) = some (.list false [eListener X], AI.freeze h b 1) := fun n b h X => resB_mapF (f := eListener) (xs := [X]) rfl
          have hroom : (l.list.l.length + 1) * 56 ≤ AI.roomBytes := room_le (n := l.list.l.length + 1) (bytes := 56) (by omega) (by decide)
          have hroom1 : 1 * 56 ≤ AI.roomBytes := room_le (n := 1) (bytes := 56) (by decide) (by decide)
          have hlen : (l.list.l.map fun x => V.d (eListener x)).length = l.list.l.length := by simp
          have hne : ∀ i j, i < 16 → (H2.next + j = i) = False := fun i j hi => by simp; omega
          simp only [go_sem, regs0, ↓reduceIte, Nat.reduceAdd, Nat.reduceEqDiff, Nat.reduceBEq, Nat.reduceBNe, Nat.reduceLeDiff, Nat.reduceLT, reduceCtorEq, decide_true, decide_false, List.length_map, Int.reduceLT, Int.reduceLE, Int.reduceBEq, Int.reduceAdd, Int.reduceSub, Int.reduceToNat, appV_eq, appO_one, elsB_one, sized_one, appB_some, hlen, hroom, k4, hb0, h0b, hbn2, hnb2, low_ne hn2, low_ne' hn2, k0, k1, k2, k3, hne, Reads_eq, hwn, eListeners, happ, resB_mapF, List.length_append, List.length_cons, List.length_nil]
          skip

        · rw [add_many hc0 h1 h2 (by simp_all) (by simp at hc; omega)]
          simp only [eListeners, Listeners.zero, List.map_nil]
      · rename_i q1 q2 q3 q4
        have h1 : ¬ 1024 < x.type_.length := by simp at q1; omega
        have h2 : ¬ (x.node < 1 ∨ 3 ≤ x.passive) := by simp at q2 q3; omega
        have h3 : aborted = true ∨ x.callback = 0 ∨ l.list.l.any (alike x) = true := .inr (.inl (by simpa using hc))
        obtain rfl : aborted = false := q4
        rw [add_none hc0 h1 h2 h3]
        simp only [go_sem, regs0, ↓reduceIte, Nat.reduceAdd, Nat.reduceEqDiff, Nat.reduceBEq, Nat.reduceBNe, Nat.reduceLeDiff, Nat.reduceLT, reduceCtorEq, decide_true, decide_false, List.length_map, Int.reduceLT, Int.reduceLE, Int.reduceBEq, Int.reduceAdd, Int.reduceSub, Int.reduceToNat, Reads_eq, eListeners, hb4, hb3, resB_mapF, hb0, h0b, hbn, hnb]
      · rename_i q1 q2 q3
        have h1 : ¬ 1024 < x.type_.length := by simp at q1; omega
        have h2 : ¬ (x.node < 1 ∨ 3 ≤ x.passive) := by simp at q2 q3; omega
        subst hc
        rw [add_none hc0 h1 h2 (.inl rfl)]
        simp only [go_sem, regs0, ↓reduceIte, Nat.reduceAdd, Nat.reduceEqDiff, Nat.reduceBEq, Nat.reduceBNe, Nat.reduceLeDiff, Nat.reduceLT, reduceCtorEq, decide_true, decide_false, List.length_map, Int.reduceLT, Int.reduceLE, Int.reduceBEq, Int.reduceAdd, Int.reduceSub, Int.reduceToNat, Reads_eq, eListeners, hb4, hb3, resB_mapF, hb0, h0b, hbn, hnb]
      · rename_i q1
        rw [add_range hc0 (by simp at q1; omega) (by simp at hc; omega)]
        simp only [eListeners, Listeners.zero, List.map_nil]

  · have e : add l.list.l.isEmpty l x root aborted = (.zero, 0, check l) := by rw [add, if_pos (by simpa using hc0)]
    have hcb : (check l == 0) = false := by simpa using hc0
    rw [e]
    simp only [go_sem, regs0, ↓reduceIte, Nat.reduceAdd, Nat.reduceEqDiff, Nat.reduceBEq, Nat.reduceBNe, Nat.reduceLeDiff, Nat.reduceLT, reduceCtorEq, decide_true, decide_false, List.length_map, Int.reduceLT, Int.reduceLE, Int.reduceBEq, Int.reduceAdd, Int.reduceSub, Int.reduceToNat, hcb, eListeners, Listeners.zero, List.map_nil]
end Go.Proofs.Ytnijbejobbajfaa.L
