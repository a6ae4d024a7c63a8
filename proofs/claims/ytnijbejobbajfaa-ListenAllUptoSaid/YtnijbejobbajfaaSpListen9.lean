/- What Add answers. Its conditions: none. -/
import Derived.Test.YtnijbejobbajfaaSpListen8
set_option linter.unusedSimpArgs false
set_option linter.unusedVariables false
set_option linter.unusedSectionVars false
set_option linter.unnecessarySimpa false
namespace Go.Proofs.Ytnijbejobbajfaa.L
open Go.AI
theorem find_any (x : Listener) : ∀ (l : List Listener) (k : Int), 0 ≤ k → (0 ≤ find x l k ↔ l.any (alike x) = true)
  | [], k, _ => by simp [find]
  | y :: r, k, hk => by
    simp only [find, List.any_cons]
    cases alike x y
    · simpa using find_any x r (k + 1) (by omega)
    · simpa using hk
def addX (l : Listeners) (x : Listener) (root : Bool) : Listener := { x with id := next l, passive := if x.passive = 0 then passive x.type_ root else x.passive }
def add (n : Bool) (l : Listeners) (x : Listener) (root aborted : Bool) : Listeners × Int × Int :=
  if ¬ check l = 0 then (.zero, 0, check l) else if 1024 < x.type_.length then (.zero, 0, 4) else if x.node < 1 ∨ 3 ≤ x.passive then (.zero, 0, 2)
  else if aborted = true ∨ x.callback = 0 ∨ l.list.l.any (alike x) = true then (⟨⟨n, l.list.l⟩, next l⟩, 0, 0) else if 1024 ≤ l.list.l.length ∨ 1099511627776 ≤ next l then (.zero, 0, 3)
  else (⟨⟨false, l.list.l ++ [addX l x root]⟩, next l + 1⟩, next l, 0)
section
variable {n : Bool} {l : Listeners} {x : Listener} {root aborted : Bool} (h0 : check l = 0)
include h0
theorem add_long (h1 : 1024 < x.type_.length) : add n l x root aborted = (.zero, 0, 4) := by
  rw [add, if_neg (by simp [h0]), if_pos h1]
variable (h1 : ¬ 1024 < x.type_.length)
include h1
theorem add_range (h2 : x.node < 1 ∨ 3 ≤ x.passive) : add n l x root aborted = (.zero, 0, 2) := by
  rw [add, if_neg (by simp [h0]), if_neg h1, if_pos h2]
variable (h2 : ¬ (x.node < 1 ∨ 3 ≤ x.passive))
include h2
theorem add_none (h3 : aborted = true ∨ x.callback = 0 ∨ l.list.l.any (alike x) = true) : add n l x root aborted = (⟨⟨n, l.list.l⟩, next l⟩, 0, 0) := by
  rw [add, if_neg (by simp [h0]), if_neg h1, if_neg h2, if_pos h3]
variable (h3 : ¬ (aborted = true ∨ x.callback = 0 ∨ l.list.l.any (alike x) = true))
include h3
theorem add_many (h4 : 1024 ≤ l.list.l.length ∨ 1099511627776 ≤ next l) : add n l x root aborted = (.zero, 0, 3) := by
  rw [add, if_neg (by simp [h0]), if_neg h1, if_neg h2, if_neg h3, if_pos h4]
theorem add_more (h4 : ¬ (1024 ≤ l.list.l.length ∨ 1099511627776 ≤ next l)) : add n l x root aborted = (⟨⟨false, l.list.l ++ [addX l x root]⟩, next l + 1⟩, next l, 0) := by
  rw [add, if_neg (by simp [h0]), if_neg h1, if_neg h2, if_neg h3, if_neg h4]
end
theorem add_ref (l : Listeners) (x : Listener) (root aborted : Bool) : pc prog 18 [eListeners l, eListener x, .bool root, .bool aborted] = some (.tuple [eListeners (add false l x root aborted).1, .int .i64 (add false l x root aborted).2.1, .int .i64 (add false l x root aborted).2.2]) := by
  refine pc_of (fn := c18) rfl rfl ?_
  delta c18
  simp only [go_sem, regs0, ↓reduceIte, Nat.reduceAdd, Nat.reduceEqDiff, Nat.reduceBEq, Nat.reduceBNe, Nat.reduceLeDiff, Nat.reduceLT, reduceCtorEq, decide_true, decide_false, List.length_map, Int.reduceLT, Int.reduceLE, Int.reduceBEq, Int.reduceAdd, Int.reduceSub, Int.reduceToNat, check_ref]
  by_cases hc0 : check l = 0
  · have hl := check_len hc0
    have hcp := copy_spec l
    have hfd := find_spec l.list.l l.list.n x (by omega)
    have hany := find_any x l.list.l 0 (by omega)
    have hmx := max_next hc0
    simp only [go_sem, regs0, ↓reduceIte, Nat.reduceAdd, Nat.reduceEqDiff, Nat.reduceBEq, Nat.reduceBNe, Nat.reduceLeDiff, Nat.reduceLT, reduceCtorEq, decide_true, decide_false, List.length_map, Int.reduceLT, Int.reduceLE, Int.reduceBEq, Int.reduceAdd, Int.reduceSub, Int.reduceToNat, check_ref, hc0]
    repeat' (first | (refine WGuard_splitN (fun hc => ?_) (fun hc => ?_) <;> (try simp only [go_sem, regs0, ↓reduceIte, Nat.reduceAdd, Nat.reduceEqDiff, Nat.reduceBEq, Nat.reduceBNe, Nat.reduceLeDiff, Nat.reduceLT, reduceCtorEq, decide_true, decide_false, List.length_map, Int.reduceLT, Int.reduceLE, Int.reduceBEq, Int.reduceAdd, Int.reduceSub, Int.reduceToNat, hc, check_ref, hfd, passive_ref])) | (refine WBr_splitN (fun hc => ?_) (fun hc => ?_) <;> (try simp only [go_sem, regs0, ↓reduceIte, Nat.reduceAdd, Nat.reduceEqDiff, Nat.reduceBEq, Nat.reduceBNe, Nat.reduceLeDiff, Nat.reduceLT, reduceCtorEq, decide_true, decide_false, List.length_map, Int.reduceLT, Int.reduceLE, Int.reduceBEq, Int.reduceAdd, Int.reduceSub, Int.reduceToNat, hc, check_ref, hfd, passive_ref])) | (refine WGuard_split (fun hc => ?_) (fun hc => ?_) <;> (try simp only [go_sem, regs0, ↓reduceIte, Nat.reduceAdd, Nat.reduceEqDiff, Nat.reduceBEq, Nat.reduceBNe, Nat.reduceLeDiff, Nat.reduceLT, reduceCtorEq, decide_true, decide_false, List.length_map, Int.reduceLT, Int.reduceLE, Int.reduceBEq, Int.reduceAdd, Int.reduceSub, Int.reduceToNat, hc, check_ref, hfd, passive_ref])) | (refine WBr_split (fun hc => ?_) (fun hc => ?_) <;> (try simp only [go_sem, regs0, ↓reduceIte, Nat.reduceAdd, Nat.reduceEqDiff, Nat.reduceBEq, Nat.reduceBNe, Nat.reduceLeDiff, Nat.reduceLT, reduceCtorEq, decide_true, decide_false, List.length_map, Int.reduceLT, Int.reduceLE, Int.reduceBEq, Int.reduceAdd, Int.reduceSub, Int.reduceToNat, hc, check_ref, hfd, passive_ref])))
    · rw [add_long hc0 (by simp at hc; omega)]
      simp only [eListeners, Listeners.zero, List.map_nil]
    · rename_i h1 h2
      rw [add_range hc0 (by simp at h1; omega) (by simp at hc; omega)]
      simp only [eListeners, Listeners.zero, List.map_nil]
    · rename_i q1 q2
      have h1 : ¬ 1024 < x.type_.length := by simp at q1; omega
      have h2 : ¬ (x.node < 1 ∨ 3 ≤ x.passive) := by simp at hc q2; omega
      clear q1 q2 hc
      refine WVal_callE (hcp _ (by omega)) ?_
      rintro v H ⟨b, rfl, hb1, hb2, hb3, hle⟩
      have g0 := hle.get 0 (by simp only [go_sem, regs0, ↓reduceIte, Nat.reduceAdd, Nat.reduceEqDiff, Nat.reduceBEq, Nat.reduceBNe, Nat.reduceLeDiff, Nat.reduceLT, reduceCtorEq, decide_true, decide_false, List.length_map, Int.reduceLT, Int.reduceLE, Int.reduceBEq, Int.reduceAdd, Int.reduceSub, Int.reduceToNat])
      have g1 := hle.get 1 (by simp only [go_sem, regs0, ↓reduceIte, Nat.reduceAdd, Nat.reduceEqDiff, Nat.reduceBEq, Nat.reduceBNe, Nat.reduceLeDiff, Nat.reduceLT, reduceCtorEq, decide_true, decide_false, List.length_map, Int.reduceLT, Int.reduceLE, Int.reduceBEq, Int.reduceAdd, Int.reduceSub, Int.reduceToNat])
      have g2 := hle.get 2 (by simp only [go_sem, regs0, ↓reduceIte, Nat.reduceAdd, Nat.reduceEqDiff, Nat.reduceBEq, Nat.reduceBNe, Nat.reduceLeDiff, Nat.reduceLT, reduceCtorEq, decide_true, decide_false, List.length_map, Int.reduceLT, Int.reduceLE, Int.reduceBEq, Int.reduceAdd, Int.reduceSub, Int.reduceToNat])
      have hn := hle.next
      simp only [go_sem, regs0, ↓reduceIte, Nat.reduceAdd, Nat.reduceEqDiff, Nat.reduceBEq, Nat.reduceBNe, Nat.reduceLeDiff, Nat.reduceLT, reduceCtorEq, decide_true, decide_false, List.length_map, Int.reduceLT, Int.reduceLE, Int.reduceBEq, Int.reduceAdd, Int.reduceSub, Int.reduceToNat] at g0 g1 g2 hb1 hn
      simp only [go_sem, regs0, ↓reduceIte, Nat.reduceAdd, Nat.reduceEqDiff, Nat.reduceBEq, Nat.reduceBNe, Nat.reduceLeDiff, Nat.reduceLT, reduceCtorEq, decide_true, decide_false, List.length_map, Int.reduceLT, Int.reduceLE, Int.reduceBEq, Int.reduceAdd, Int.reduceSub, Int.reduceToNat, hmx, low_ne hn, low_ne' hn, g0, g1, g2]
      clear hle hcp
      have hb0 : ∀ j, j < 27 → (b = j) = False := fun j hj => by simp; omega
      have h0b : ∀ j, j < 27 → (j = b) = False := fun j hj => by simp; omega
      have hbn : ∀ j, (b = H.next + j) = False := fun j => by simp; omega
      have hnb : ∀ j, (H.next + j = b) = False := fun j => by simp; omega
      have hne : ∀ i j, i < 27 → (H.next + j = i) = False := fun i j hi => by simp; omega
      have hlen : (l.list.l.map fun x => V.d (eListener x)).length = l.list.l.length := by simp
      have hroom : (l.list.l.length + 1) * 56 ≤ AI.roomBytes := room_le (n := l.list.l.length + 1) (bytes := 56) (by omega) (by decide)
      repeat' (first | (refine WGuard_splitN (fun hc => ?_) (fun hc => ?_) <;> (try simp only [go_sem, regs0, ↓reduceIte, Nat.reduceAdd, Nat.reduceEqDiff, Nat.reduceBEq, Nat.reduceBNe, Nat.reduceLeDiff, Nat.reduceLT, reduceCtorEq, decide_true, decide_false, List.length_map, Int.reduceLT, Int.reduceLE, Int.reduceBEq, Int.reduceAdd, Int.reduceSub, Int.reduceToNat, hc, hfd, passive_ref, hmx, low_ne hn, low_ne' hn, g0, g1, g2])) | (refine WBr_splitN (fun hc => ?_) (fun hc => ?_) <;> (try simp only [go_sem, regs0, ↓reduceIte, Nat.reduceAdd, Nat.reduceEqDiff, Nat.reduceBEq, Nat.reduceBNe, Nat.reduceLeDiff, Nat.reduceLT, reduceCtorEq, decide_true, decide_false, List.length_map, Int.reduceLT, Int.reduceLE, Int.reduceBEq, Int.reduceAdd, Int.reduceSub, Int.reduceToNat, hc, hfd, passive_ref, hmx, low_ne hn, low_ne' hn, g0, g1, g2])) | (refine WGuard_split (fun hc => ?_) (fun hc => ?_) <;> (try simp only [go_sem, regs0, ↓reduceIte, Nat.reduceAdd, Nat.reduceEqDiff, Nat.reduceBEq, Nat.reduceBNe, Nat.reduceLeDiff, Nat.reduceLT, reduceCtorEq, decide_true, decide_false, List.length_map, Int.reduceLT, Int.reduceLE, Int.reduceBEq, Int.reduceAdd, Int.reduceSub, Int.reduceToNat, hc, hfd, passive_ref, hmx, low_ne hn, low_ne' hn, g0, g1, g2])) | (refine WBr_split (fun hc => ?_) (fun hc => ?_) <;> (try simp only [go_sem, regs0, ↓reduceIte, Nat.reduceAdd, Nat.reduceEqDiff, Nat.reduceBEq, Nat.reduceBNe, Nat.reduceLeDiff, Nat.reduceLT, reduceCtorEq, decide_true, decide_false, List.length_map, Int.reduceLT, Int.reduceLE, Int.reduceBEq, Int.reduceAdd, Int.reduceSub, Int.reduceToNat, hc, hfd, passive_ref, hmx, low_ne hn, low_ne' hn, g0, g1, g2])))
      · have h3 : aborted = true ∨ x.callback = 0 ∨ l.list.l.any (alike x) = true := by rw [← hany]; simp_all
        have key := hc
        clear hc
        obtain rfl : aborted = false := by assumption
        rw [add_none hc0 h1 h2 h3]
        simp only [go_sem, regs0, ↓reduceIte, Nat.reduceAdd, Nat.reduceEqDiff, Nat.reduceBEq, Nat.reduceBNe, Nat.reduceLeDiff, Nat.reduceLT, reduceCtorEq, decide_true, decide_false, List.length_map, Int.reduceLT, Int.reduceLE, Int.reduceBEq, Int.reduceAdd, Int.reduceSub, Int.reduceToNat, Reads_eq, hb0, hb3, resB_mapF, eListeners]
      · have h3 : ¬ (aborted = true ∨ x.callback = 0 ∨ l.list.l.any (alike x) = true) := by rw [← hany]; simp_all
        have key := hc
        clear hc
        obtain rfl : aborted = false := by assumption
        rw [add_many hc0 h1 h2 h3 (by simp at key; omega)]
        simp only [eListeners, Listeners.zero, List.map_nil]
      · have h3 : ¬ (aborted = true ∨ x.callback = 0 ∨ l.list.l.any (alike x) = true) := by rw [← hany]; simp_all
        have key := hc
        clear hc
        obtain rfl : aborted = false := by assumption
        have h6 : decide ((1024 : Int) ≤ l.list.l.length) = false := by assumption
        have h7 : decide (1099511627776 ≤ next l) = false := by assumption
        have h6 : ¬ (1024 ≤ l.list.l.length ∨ 1099511627776 ≤ next l) := by simp at h6 h7; omega
        have hx : addX l x root = { id := next l, node := x.node, type_ := x.type_, callback := x.callback, capture := x.capture, once := x.once, passive := passive x.type_ root, signal := x.signal } := by
          have hp : x.passive = 0 := by simpa using key
          simp only [addX, hp, if_true, if_false]
        rw [add_more hc0 h1 h2 h3 h6, hx]
        have hnp : 1 ≤ next l := by omega
        have hwn : IntKind.i64.wrap (next l + 1) = next l + 1 := by rw [IntKind.wrap_i64]; omega
        have happ : ∀ X, (l.list.l.map fun y => V.d (eListener y)) ++ [V.d (eListener X)] = (l.list.l ++ [X]).map fun y => V.d (eListener y) := fun X => by simp
        simp only [go_sem, regs0, ↓reduceIte, Nat.reduceAdd, Nat.reduceEqDiff, Nat.reduceBEq, Nat.reduceBNe, Nat.reduceLeDiff, Nat.reduceLT, reduceCtorEq, decide_true, decide_false, List.length_map, Int.reduceLT, Int.reduceLE, Int.reduceBEq, Int.reduceAdd, Int.reduceSub, Int.reduceToNat, appV_eq, appO_one, elsB_one, sized_one, appB_some, hlen, hroom, hb3, hmx, low_ne hn, low_ne' hn, g0, g1, g2, hne, hb0, h0b, hbn, hnb, Reads_eq, hwn, eListeners, happ, resB_mapF, List.length_append, List.length_cons, List.length_nil]

      · have h3 : ¬ (aborted = true ∨ x.callback = 0 ∨ l.list.l.any (alike x) = true) := by rw [← hany]; simp_all
        have key := hc
        clear hc
        obtain rfl : aborted = false := by assumption
        have h6 : decide ((1024 : Int) ≤ l.list.l.length) = false := by assumption
        have h7 : decide (1099511627776 ≤ next l) = false := by assumption
        have h6 : ¬ (1024 ≤ l.list.l.length ∨ 1099511627776 ≤ next l) := by simp at h6 h7; omega
        have hx : addX l x root = { id := next l, node := x.node, type_ := x.type_, callback := x.callback, capture := x.capture, once := x.once, passive := x.passive, signal := x.signal } := by
          have hp : ¬ x.passive = 0 := by simpa using key
          simp only [addX, hp, if_true, if_false]
        rw [add_more hc0 h1 h2 h3 h6, hx]
        have hnp : 1 ≤ next l := by omega
        have hwn : IntKind.i64.wrap (next l + 1) = next l + 1 := by rw [IntKind.wrap_i64]; omega
        have happ : ∀ X, (l.list.l.map fun y => V.d (eListener y)) ++ [V.d (eListener X)] = (l.list.l ++ [X]).map fun y => V.d (eListener y) := fun X => by simp
        simp only [go_sem, regs0, ↓reduceIte, Nat.reduceAdd, Nat.reduceEqDiff, Nat.reduceBEq, Nat.reduceBNe, Nat.reduceLeDiff, Nat.reduceLT, reduceCtorEq, decide_true, decide_false, List.length_map, Int.reduceLT, Int.reduceLE, Int.reduceBEq, Int.reduceAdd, Int.reduceSub, Int.reduceToNat, appV_eq, appO_one, elsB_one, sized_one, appB_some, hlen, hroom, hb3, hmx, low_ne hn, low_ne' hn, g0, g1, g2, hne, hb0, h0b, hbn, hnb, Reads_eq, hwn, eListeners, happ, resB_mapF, List.length_append, List.length_cons, List.length_nil]

      · have h3 : ¬ (aborted = true ∨ x.callback = 0 ∨ l.list.l.any (alike x) = true) := by rw [← hany]; simp_all
        have key := hc
        clear hc
        obtain rfl : aborted = false := by assumption
        rw [add_many hc0 h1 h2 h3 (by simp at key; omega)]
        simp only [eListeners, Listeners.zero, List.map_nil]
      · have h3 : aborted = true ∨ x.callback = 0 ∨ l.list.l.any (alike x) = true := by rw [← hany]; simp_all
        have key := hc
        clear hc
        obtain rfl : aborted = false := by assumption
        rw [add_none hc0 h1 h2 h3]
        simp only [go_sem, regs0, ↓reduceIte, Nat.reduceAdd, Nat.reduceEqDiff, Nat.reduceBEq, Nat.reduceBNe, Nat.reduceLeDiff, Nat.reduceLT, reduceCtorEq, decide_true, decide_false, List.length_map, Int.reduceLT, Int.reduceLE, Int.reduceBEq, Int.reduceAdd, Int.reduceSub, Int.reduceToNat, Reads_eq, hb0, hb3, resB_mapF, eListeners]
      · have h3 : aborted = true ∨ x.callback = 0 ∨ l.list.l.any (alike x) = true := .inl hc
        subst hc
        rw [add_none hc0 h1 h2 h3]
        simp only [go_sem, regs0, ↓reduceIte, Nat.reduceAdd, Nat.reduceEqDiff, Nat.reduceBEq, Nat.reduceBNe, Nat.reduceLeDiff, Nat.reduceLT, reduceCtorEq, decide_true, decide_false, List.length_map, Int.reduceLT, Int.reduceLE, Int.reduceBEq, Int.reduceAdd, Int.reduceSub, Int.reduceToNat, Reads_eq, hb0, hb3, resB_mapF, eListeners]
    · rename_i h1
      rw [add_range hc0 (by simp at h1; omega) (by simp at hc; omega)]
      simp only [eListeners, Listeners.zero, List.map_nil]
  · have e : add false l x root aborted = (.zero, 0, 2) := by rw [add, if_pos (by simpa using hc0), check_two hc0]
    rw [e, check_two hc0]
    simp only [go_sem, regs0, ↓reduceIte, Nat.reduceAdd, Nat.reduceEqDiff, Nat.reduceBEq, Nat.reduceBNe, Nat.reduceLeDiff, Nat.reduceLT, reduceCtorEq, decide_true, decide_false, List.length_map, Int.reduceLT, Int.reduceLE, Int.reduceBEq, Int.reduceAdd, Int.reduceSub, Int.reduceToNat, eListeners, Listeners.zero, List.map_nil]
end Go.Proofs.Ytnijbejobbajfaa.L
