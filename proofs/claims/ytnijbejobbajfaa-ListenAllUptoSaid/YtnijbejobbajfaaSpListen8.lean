/- What Copy, Remove and Add answer. Its conditions: none. -/
import Derived.Test.YtnijbejobbajfaaSpListen7
set_option linter.unusedSimpArgs false
set_option linter.unusedVariables false
set_option linter.unusedSectionVars false
set_option linter.unnecessarySimpa false
namespace Go.Proofs.Ytnijbejobbajfaa.L
open Go.AI
theorem copy_spec (l : Listeners) (h : Heap) (hl : l.list.l.length ≤ 2 ^ 31) : ∃ v h2, ans prog (.d (.fn 63)) [.d (eListeners l)] h = some (v, h2) ∧ ∃ b, v = V.agg [.sl b 0 l.list.l.length, .d (.int .i64 (max l.next 1))] ∧ h.next ≤ b ∧ b < h2.next ∧ h2.get b = some (.els 8 (l.list.l.map fun x => V.d (eListener x)) 0) ∧ Le h h2 := by
  refine fn_ofE (fn := c63) rfl rfl ?_
  delta c63
  have hroom : l.list.l.length * 56 ≤ AI.roomBytes := room_le (n := l.list.l.length) (bytes := 56) (by omega) (by decide)
  simp only [go_sem, regs0, ↓reduceIte, Nat.reduceAdd, Nat.reduceEqDiff, Nat.reduceBEq, Nat.reduceBNe, Nat.reduceLeDiff, Nat.reduceLT, reduceCtorEq, decide_true, decide_false, List.length_map, Int.reduceLT, Int.reduceLE, Int.reduceBEq, Int.reduceAdd, Int.reduceSub, Int.reduceToNat, appV_eq, low_ne (Nat.le_refl h.next), low_ne' (Nat.le_refl h.next)]
  by_cases hne : l.list.l = []
  · simp only [hne, List.map_nil]
    rw [appO_none rfl]
    simp only [go_sem, regs0, ↓reduceIte, Nat.reduceAdd, Nat.reduceEqDiff, Nat.reduceBEq, Nat.reduceBNe, Nat.reduceLeDiff, Nat.reduceLT, reduceCtorEq, decide_true, decide_false, List.length_map, Int.reduceLT, Int.reduceLE, Int.reduceBEq, Int.reduceAdd, Int.reduceSub, Int.reduceToNat, hne, List.map_nil]
    exact ⟨by simp, h.next + 2, rfl, by omega, by omega, by simp only [go_sem, regs0, ↓reduceIte, Nat.reduceAdd, Nat.reduceEqDiff, Nat.reduceBEq, Nat.reduceBNe, Nat.reduceLeDiff, Nat.reduceLT, reduceCtorEq, decide_true, decide_false, List.length_map, Int.reduceLT, Int.reduceLE, Int.reduceBEq, Int.reduceAdd, Int.reduceSub, Int.reduceToNat], by first | exact Le.refl | (repeat' (first | exact Le.refl | assumption | apply Le.bump | (apply Le.put (hb := by (try simp only [Heap.bump_next, Heap.put_next]); omega)) | (apply Le.del (hb := by (try simp only [Heap.bump_next, Heap.put_next]); omega))))⟩
  · have hm : ((l.list.l.map eListener).map V.d) ≠ [] := by simpa using hne
    have hs : sized 8 ((l.list.l.map eListener).map V.d) = true := eListener_sizedm _
    rw [appO_ne hm hs, appD_sl]
    have hlm : ((l.list.l.map eListener).map V.d).length = l.list.l.length := by simp
    simp only [go_sem, regs0, ↓reduceIte, Nat.reduceAdd, Nat.reduceEqDiff, Nat.reduceBEq, Nat.reduceBNe, Nat.reduceLeDiff, Nat.reduceLT, reduceCtorEq, decide_true, decide_false, List.length_map, Int.reduceLT, Int.reduceLE, Int.reduceBEq, Int.reduceAdd, Int.reduceSub, Int.reduceToNat, appB_some, hlm, hroom, Nat.zero_add, List.nil_append]
    exact ⟨by simp, h.next + 5, rfl, by omega, by omega, by simp only [go_sem, regs0, ↓reduceIte, Nat.reduceAdd, Nat.reduceEqDiff, Nat.reduceBEq, Nat.reduceBNe, Nat.reduceLeDiff, Nat.reduceLT, reduceCtorEq, decide_true, decide_false, List.length_map, Int.reduceLT, Int.reduceLE, Int.reduceBEq, Int.reduceAdd, Int.reduceSub, Int.reduceToNat, List.map_map, Function.comp_def], by first | exact Le.refl | (repeat' (first | exact Le.refl | assumption | apply Le.bump | (apply Le.put (hb := by (try simp only [Heap.bump_next, Heap.put_next]); omega)) | (apply Le.del (hb := by (try simp only [Heap.bump_next, Heap.put_next]); omega))))⟩
def likeP (node : Int) (kind : List UInt8) (cb : Int) (cap : Bool) (x : Listener) : Bool := x.node == node && x.type_ == kind && x.callback == cb && x.capture == cap
def remStep (node : Int) (kind : List UInt8) (cb : Int) (cap : Bool) (s : Int) (x : Listener) : Bool × Int := if likeP node kind cb cap x then (false, x.id) else (true, s)
theorem remove_steps (lo a1 a2 a3 a4 a5 : Nat) (h0 : Heap) (node : Int) (kind : List UInt8) (cb : Int) (cap : Bool) (hd : a1 < a2 ∧ a2 < a3 ∧ a3 < a4 ∧ a4 < a5) (hlo : a5 < lo)
    (j1 : h0.get a1 = some (.els 1 [.d (.int .i64 node)] 0)) (j2 : h0.get a2 = some (.els 1 [.d (.str kind)] 0)) (j3 : h0.get a3 = some (.els 1 [.d (.int .i64 cb)] 0)) (j4 : h0.get a4 = some (.els 1 [.d (.bool cap)] 0)) :
    StepsS prog (.clo 68 [] [V.ptr a1 0 0, V.ptr a2 0 0, V.ptr a3 0 0, V.ptr a4 0 0, V.ptr a5 0 0]) eListener (remStep node kind cb cap) lo (fun s h => h.get a5 = some (.els 1 [.d (.int .i64 s)] 0) ∧ ∀ b, b < lo → b ≠ a5 → h.get b = h0.get b) where
  keep := fun s h h' ⟨i5, i6⟩ hn hg => by
    rw [hg a5 (by omega)]
    exact ⟨i5, fun b h1 h2 => (hg b h1).trans (i6 b h1 h2)⟩
  call := fun s g x hl ⟨i5, i6⟩ => by
    have i1 := (i6 a1 (by omega) (by omega)).trans j1
    have i2 := (i6 a2 (by omega) (by omega)).trans j2
    have i3 := (i6 a3 (by omega) (by omega)).trans j3
    have i4 := (i6 a4 (by omega) (by omega)).trans j4
    have hx : ∀ {Q : Heap → Prop}, Wp prog (c68).body { r := fun i => ([] ++ [V.d (eListener x)] ++ [V.ptr a1 0 0, V.ptr a2 0 0, V.ptr a3 0 0, V.ptr a4 0 0, V.ptr a5 0 0]).getD i .undef, h := g } (RetPost (c68).results fun v' h' => v' = .d (.bool (remStep node kind cb cap s x).1) ∧ Q h') → ∃ h2, ans prog (.clo 68 [] [V.ptr a1 0 0, V.ptr a2 0 0, V.ptr a3 0 0, V.ptr a4 0 0, V.ptr a5 0 0]) [.d (eListener x)] g = some (.d (.bool (remStep node kind cb cap s x).1), h2) ∧ Q h2 := fun h => clo_of rfl rfl h
    refine hx ?_
    clear hx
    delta c68
    have b1 : a1 < g.next := by omega
    have b2 : a2 < g.next := by omega
    have b3 : a3 < g.next := by omega
    have b4 : a4 < g.next := by omega
    have b5 : a5 < g.next := by omega
    have hpl : V.d (.agg [.int .i64 node, .str kind, .int .i64 cb, .bool cap]) = V.d (elisten_place ⟨node, kind, cb, cap⟩) := rfl
    simp only [go_sem, regs0, ↓reduceIte, Nat.reduceAdd, Nat.reduceEqDiff, Nat.reduceBEq, Nat.reduceBNe, Nat.reduceLeDiff, Nat.reduceLT, reduceCtorEq, decide_true, decide_false, List.length_map, Int.reduceLT, Int.reduceLE, Int.reduceBEq, Int.reduceAdd, Int.reduceSub, Int.reduceToNat, hpl, i1, i2, i3, i4, i5, low_ne (Nat.le_refl g.next), low_ne' (Nat.le_refl g.next), b1, b2, b3, b4, b5, placeOf_spec]
    repeat' (first | (refine WGuard_splitN (fun hc => ?_) (fun hc => ?_) <;> (try simp only [go_sem, regs0, ↓reduceIte, Nat.reduceAdd, Nat.reduceEqDiff, Nat.reduceBEq, Nat.reduceBNe, Nat.reduceLeDiff, Nat.reduceLT, reduceCtorEq, decide_true, decide_false, List.length_map, Int.reduceLT, Int.reduceLE, Int.reduceBEq, Int.reduceAdd, Int.reduceSub, Int.reduceToNat, hc, hpl, i1, i2, i3, i4, i5, low_ne (Nat.le_refl g.next), low_ne' (Nat.le_refl g.next), b1, b2, b3, b4, b5, placeOf_spec])) | (refine WBr_splitN (fun hc => ?_) (fun hc => ?_) <;> (try simp only [go_sem, regs0, ↓reduceIte, Nat.reduceAdd, Nat.reduceEqDiff, Nat.reduceBEq, Nat.reduceBNe, Nat.reduceLeDiff, Nat.reduceLT, reduceCtorEq, decide_true, decide_false, List.length_map, Int.reduceLT, Int.reduceLE, Int.reduceBEq, Int.reduceAdd, Int.reduceSub, Int.reduceToNat, hc, hpl, i1, i2, i3, i4, i5, low_ne (Nat.le_refl g.next), low_ne' (Nat.le_refl g.next), b1, b2, b3, b4, b5, placeOf_spec])) | (refine WGuard_split (fun hc => ?_) (fun hc => ?_) <;> (try simp only [go_sem, regs0, ↓reduceIte, Nat.reduceAdd, Nat.reduceEqDiff, Nat.reduceBEq, Nat.reduceBNe, Nat.reduceLeDiff, Nat.reduceLT, reduceCtorEq, decide_true, decide_false, List.length_map, Int.reduceLT, Int.reduceLE, Int.reduceBEq, Int.reduceAdd, Int.reduceSub, Int.reduceToNat, hc, hpl, i1, i2, i3, i4, i5, low_ne (Nat.le_refl g.next), low_ne' (Nat.le_refl g.next), b1, b2, b3, b4, b5, placeOf_spec])) | (refine WBr_split (fun hc => ?_) (fun hc => ?_) <;> (try simp only [go_sem, regs0, ↓reduceIte, Nat.reduceAdd, Nat.reduceEqDiff, Nat.reduceBEq, Nat.reduceBNe, Nat.reduceLeDiff, Nat.reduceLT, reduceCtorEq, decide_true, decide_false, List.length_map, Int.reduceLT, Int.reduceLE, Int.reduceBEq, Int.reduceAdd, Int.reduceSub, Int.reduceToNat, hc, hpl, i1, i2, i3, i4, i5, low_ne (Nat.le_refl g.next), low_ne' (Nat.le_refl g.next), b1, b2, b3, b4, b5, placeOf_spec])))
    · have hc : likeP node kind cb cap x = false := by
        rw [← hc, likeP, placeOf, Bool.eq_iff_iff]; simp [and_assoc]
      simp only [remStep, hc, Bool.false_eq_true, if_false, true_and]
      exact ⟨fun b h1 h2 => by rw [if_neg (by omega)]; exact i6 b h1 h2, by omega, fun b _ hb => by rw [if_neg (by omega)]⟩
    · have hc : likeP node kind cb cap x = true := by
        rw [← hc, likeP, placeOf, Bool.eq_iff_iff]; simp [and_assoc]
      simp only [remStep, hc, if_true, true_and]
      exact ⟨fun b h1 h2 => by rw [if_neg h2, if_neg (by omega)]; exact i6 b h1 h2, by omega, fun b h1 hb => by rw [if_neg (by omega), if_neg (by omega)]⟩
def remove (l : Listeners) (node : Int) (kind : List UInt8) (cb : Int) (cap : Bool) : Listeners × Int × Int :=
  if check l = 0 then (⟨some_ (keptS (remStep node kind cb cap) 0 l.list.l).1, next l⟩, (keptS (remStep node kind cb cap) 0 l.list.l).2, 0) else (.zero, 0, check l)
theorem remove_spec (l : Listeners) (node : Int) (kind : List UInt8) (cb : Int) (cap : Bool) : pc prog 29 [eListeners l, .int .i64 node, .str kind, .int .i64 cb, .bool cap] = some (.tuple [eListeners (remove l node kind cb cap).1, .int .i64 (remove l node kind cb cap).2.1, .int .i64 (remove l node kind cb cap).2.2]) := by
  refine pc_of (fn := c29) rfl rfl ?_
  delta c29
  simp only [go_sem, regs0, ↓reduceIte, Nat.reduceAdd, Nat.reduceEqDiff, Nat.reduceBEq, Nat.reduceBNe, Nat.reduceLeDiff, Nat.reduceLT, reduceCtorEq, decide_true, decide_false, List.length_map, Int.reduceLT, Int.reduceLE, Int.reduceBEq, Int.reduceAdd, Int.reduceSub, Int.reduceToNat, check_spec]
  repeat' (first | (refine WGuard_splitN (fun hc => ?_) (fun hc => ?_) <;> (try simp only [go_sem, regs0, ↓reduceIte, Nat.reduceAdd, Nat.reduceEqDiff, Nat.reduceBEq, Nat.reduceBNe, Nat.reduceLeDiff, Nat.reduceLT, reduceCtorEq, decide_true, decide_false, List.length_map, Int.reduceLT, Int.reduceLE, Int.reduceBEq, Int.reduceAdd, Int.reduceSub, Int.reduceToNat, hc, check_spec])) | (refine WBr_splitN (fun hc => ?_) (fun hc => ?_) <;> (try simp only [go_sem, regs0, ↓reduceIte, Nat.reduceAdd, Nat.reduceEqDiff, Nat.reduceBEq, Nat.reduceBNe, Nat.reduceLeDiff, Nat.reduceLT, reduceCtorEq, decide_true, decide_false, List.length_map, Int.reduceLT, Int.reduceLE, Int.reduceBEq, Int.reduceAdd, Int.reduceSub, Int.reduceToNat, hc, check_spec])) | (refine WGuard_split (fun hc => ?_) (fun hc => ?_) <;> (try simp only [go_sem, regs0, ↓reduceIte, Nat.reduceAdd, Nat.reduceEqDiff, Nat.reduceBEq, Nat.reduceBNe, Nat.reduceLeDiff, Nat.reduceLT, reduceCtorEq, decide_true, decide_false, List.length_map, Int.reduceLT, Int.reduceLE, Int.reduceBEq, Int.reduceAdd, Int.reduceSub, Int.reduceToNat, hc, check_spec])) | (refine WBr_split (fun hc => ?_) (fun hc => ?_) <;> (try simp only [go_sem, regs0, ↓reduceIte, Nat.reduceAdd, Nat.reduceEqDiff, Nat.reduceBEq, Nat.reduceBNe, Nat.reduceLeDiff, Nat.reduceLT, reduceCtorEq, decide_true, decide_false, List.length_map, Int.reduceLT, Int.reduceLE, Int.reduceBEq, Int.reduceAdd, Int.reduceSub, Int.reduceToNat, hc, check_spec])))
  · have hc : ¬ check l = 0 := by simpa using hc
    simp only [remove, if_neg hc, eListeners, Listeners.zero, List.map_nil]
  · have hc : check l = 0 := by simpa using hc
    have hl := check_len hc
    refine WVal_callE (kept_spec (remove_steps _ 1 2 3 4 13 _ node kind cb cap (by decide) ?_ ?_ ?_ ?_ ?_) 0 ⟨?_, fun _ _ _ => rfl⟩ l (by omega)) ?_
    iterate 6 (simp only [go_sem, regs0, ↓reduceIte, Nat.reduceAdd, Nat.reduceEqDiff, Nat.reduceBEq, Nat.reduceBNe, Nat.reduceLeDiff, Nat.reduceLT, reduceCtorEq, decide_true, decide_false, List.length_map, Int.reduceLT, Int.reduceLE, Int.reduceBEq, Int.reduceAdd, Int.reduceSub, Int.reduceToNat])
    rintro v h2 ⟨lv, rfl, hg, ⟨i5, i6⟩, hn⟩
    have g0 := i6 0 (by simp only [go_sem, regs0, ↓reduceIte, Nat.reduceAdd, Nat.reduceEqDiff, Nat.reduceBEq, Nat.reduceBNe, Nat.reduceLeDiff, Nat.reduceLT, reduceCtorEq, decide_true, decide_false, List.length_map, Int.reduceLT, Int.reduceLE, Int.reduceBEq, Int.reduceAdd, Int.reduceSub, Int.reduceToNat]) (by decide)
    have g5 := i6 5 (by simp only [go_sem, regs0, ↓reduceIte, Nat.reduceAdd, Nat.reduceEqDiff, Nat.reduceBEq, Nat.reduceBNe, Nat.reduceLeDiff, Nat.reduceLT, reduceCtorEq, decide_true, decide_false, List.length_map, Int.reduceLT, Int.reduceLE, Int.reduceBEq, Int.reduceAdd, Int.reduceSub, Int.reduceToNat]) (by decide)
    simp only [go_sem, regs0, ↓reduceIte, Nat.reduceAdd, Nat.reduceEqDiff, Nat.reduceBEq, Nat.reduceBNe, Nat.reduceLeDiff, Nat.reduceLT, reduceCtorEq, decide_true, decide_false, List.length_map, Int.reduceLT, Int.reduceLE, Int.reduceBEq, Int.reduceAdd, Int.reduceSub, Int.reduceToNat] at g0 g5 hn
    rcases hg with ⟨ha, rfl⟩ | ⟨b, rfl, hb1, hb2, hb3, hb4⟩
    · have ha : (keptS (remStep node kind cb cap) 0 l.list.l).1 = [] := by simpa using ha
      simp only [go_sem, regs0, ↓reduceIte, Nat.reduceAdd, Nat.reduceEqDiff, Nat.reduceBEq, Nat.reduceBNe, Nat.reduceLeDiff, Nat.reduceLT, reduceCtorEq, decide_true, decide_false, List.length_map, Int.reduceLT, Int.reduceLE, Int.reduceBEq, Int.reduceAdd, Int.reduceSub, Int.reduceToNat, g0, g5, i5, low_ne hn, low_ne' hn, remove, if_pos hc, some_, ha, eListeners, List.isEmpty_nil, List.map_nil]
    · have hb4 : (keptS (remStep node kind cb cap) 0 l.list.l).1 ≠ [] := by simpa using hb4
      simp only [go_sem, regs0, ↓reduceIte, Nat.reduceAdd, Nat.reduceEqDiff, Nat.reduceBEq, Nat.reduceBNe, Nat.reduceLeDiff, Nat.reduceLT, reduceCtorEq, decide_true, decide_false, List.length_map, Int.reduceLT, Int.reduceLE, Int.reduceBEq, Int.reduceAdd, Int.reduceSub, Int.reduceToNat] at hb1
      have hb0 : ∀ j, j < 20 → (b = j) = False := fun j hj => by simp; omega
      have h0b : ∀ j, j < 20 → (j = b) = False := fun j hj => by simp; omega
      have hbn : (b = h2.next) = False := by simp; omega
      simp only [go_sem, regs0, ↓reduceIte, Nat.reduceAdd, Nat.reduceEqDiff, Nat.reduceBEq, Nat.reduceBNe, Nat.reduceLeDiff, Nat.reduceLT, reduceCtorEq, decide_true, decide_false, List.length_map, Int.reduceLT, Int.reduceLE, Int.reduceBEq, Int.reduceAdd, Int.reduceSub, Int.reduceToNat, g0, g5, i5, low_ne hn, low_ne' hn, hb0, h0b, hbn, Reads_eq, hb3, resB_mapF, remove, if_pos hc, some_, eListeners, List.isEmpty_eq_false_iff.2 hb4]
def removeR (l : Listeners) (node : Int) (kind : List UInt8) (cb : Int) (cap : Bool) : Listeners × Int × Int :=
  if check l = 0 then (let k := find ⟨0, node, kind, cb, cap, false, 0, 0⟩ l.list.l 0
    if k < 0 then (⟨⟨false, l.list.l⟩, next l⟩, 0, 0) else (⟨some_ (l.list.l.filter (wo_p (l.list.l[k.toNat]!).id)), next l⟩, (l.list.l[k.toNat]!).id, 0)) else (.zero, 0, 2)
theorem find_lt (x : Listener) : ∀ (l : List Listener) (k : Int), 0 ≤ k → find x l k < 0 ∨ (k ≤ find x l k ∧ find x l k < k + l.length)
  | [], k, _ => by simp [find]
  | y :: r, k, hk => by
    simp only [find]
    split
    · right; simp; omega
    · rcases find_lt x r (k + 1) (by omega) with h | h
      · exact .inl h
      · right; simp only [List.length_cons]; omega
theorem remove_ref (l : Listeners) (node : Int) (kind : List UInt8) (cb : Int) (cap : Bool) : pc prog 32 [eListeners l, .int .i64 node, .str kind, .int .i64 cb, .bool cap] = some (.tuple [eListeners (removeR l node kind cb cap).1, .int .i64 (removeR l node kind cb cap).2.1, .int .i64 (removeR l node kind cb cap).2.2]) := by
  refine pc_of (fn := c32) rfl rfl ?_
  delta c32
  simp only [go_sem, regs0, ↓reduceIte, Nat.reduceAdd, Nat.reduceEqDiff, Nat.reduceBEq, Nat.reduceBNe, Nat.reduceLeDiff, Nat.reduceLT, reduceCtorEq, decide_true, decide_false, List.length_map, Int.reduceLT, Int.reduceLE, Int.reduceBEq, Int.reduceAdd, Int.reduceSub, Int.reduceToNat, check_ref]
  repeat' (first | (refine WGuard_splitN (fun hc => ?_) (fun hc => ?_) <;> (try simp only [go_sem, regs0, ↓reduceIte, Nat.reduceAdd, Nat.reduceEqDiff, Nat.reduceBEq, Nat.reduceBNe, Nat.reduceLeDiff, Nat.reduceLT, reduceCtorEq, decide_true, decide_false, List.length_map, Int.reduceLT, Int.reduceLE, Int.reduceBEq, Int.reduceAdd, Int.reduceSub, Int.reduceToNat, hc, check_ref])) | (refine WBr_splitN (fun hc => ?_) (fun hc => ?_) <;> (try simp only [go_sem, regs0, ↓reduceIte, Nat.reduceAdd, Nat.reduceEqDiff, Nat.reduceBEq, Nat.reduceBNe, Nat.reduceLeDiff, Nat.reduceLT, reduceCtorEq, decide_true, decide_false, List.length_map, Int.reduceLT, Int.reduceLE, Int.reduceBEq, Int.reduceAdd, Int.reduceSub, Int.reduceToNat, hc, check_ref])) | (refine WGuard_split (fun hc => ?_) (fun hc => ?_) <;> (try simp only [go_sem, regs0, ↓reduceIte, Nat.reduceAdd, Nat.reduceEqDiff, Nat.reduceBEq, Nat.reduceBNe, Nat.reduceLeDiff, Nat.reduceLT, reduceCtorEq, decide_true, decide_false, List.length_map, Int.reduceLT, Int.reduceLE, Int.reduceBEq, Int.reduceAdd, Int.reduceSub, Int.reduceToNat, hc, check_ref])) | (refine WBr_split (fun hc => ?_) (fun hc => ?_) <;> (try simp only [go_sem, regs0, ↓reduceIte, Nat.reduceAdd, Nat.reduceEqDiff, Nat.reduceBEq, Nat.reduceBNe, Nat.reduceLeDiff, Nat.reduceLT, reduceCtorEq, decide_true, decide_false, List.length_map, Int.reduceLT, Int.reduceLE, Int.reduceBEq, Int.reduceAdd, Int.reduceSub, Int.reduceToNat, hc, check_ref])))
  · have hc : ¬ check l = 0 := by simpa using hc
    have e : removeR l node kind cb cap = (.zero, 0, 2) := by rw [removeR, if_neg hc]
    simp only [e, eListeners, Listeners.zero, List.map_nil]
  · have hc : check l = 0 := by simpa using hc
    have hl := check_len hc
    have hpl : D.agg [.int .i64 0, .int .i64 node, .str kind, .int .i64 cb, .bool cap, .bool false, .int .u8 0, .int .i64 0] = eListener ⟨0, node, kind, cb, cap, false, 0, 0⟩ := rfl
    have hfd := find_spec l.list.l l.list.n ⟨0, node, kind, cb, cap, false, 0, 0⟩ (by omega)
    rcases find_lt ⟨0, node, kind, cb, cap, false, 0, 0⟩ l.list.l 0 (by omega) with h | ⟨h1, h2⟩
    · have e : removeR l node kind cb cap = (⟨⟨false, l.list.l⟩, next l⟩, 0, 0) := by simp only [removeR, if_pos hc, if_pos h]
      rw [e]
      simp only [go_sem, regs0, ↓reduceIte, Nat.reduceAdd, Nat.reduceEqDiff, Nat.reduceBEq, Nat.reduceBNe, Nat.reduceLeDiff, Nat.reduceLT, reduceCtorEq, decide_true, decide_false, List.length_map, Int.reduceLT, Int.reduceLE, Int.reduceBEq, Int.reduceAdd, Int.reduceSub, Int.reduceToNat, hpl, hfd, h]
      refine WVal_callE (copy_spec l _ (by omega)) ?_
      rintro v h2 ⟨b, rfl, hb1, hb2, hb3, hle⟩
      have g1 := hle.get 1 (by simp only [go_sem, regs0, ↓reduceIte, Nat.reduceAdd, Nat.reduceEqDiff, Nat.reduceBEq, Nat.reduceBNe, Nat.reduceLeDiff, Nat.reduceLT, reduceCtorEq, decide_true, decide_false, List.length_map, Int.reduceLT, Int.reduceLE, Int.reduceBEq, Int.reduceAdd, Int.reduceSub, Int.reduceToNat])
      have hn := hle.next
      simp only [go_sem, regs0, ↓reduceIte, Nat.reduceAdd, Nat.reduceEqDiff, Nat.reduceBEq, Nat.reduceBNe, Nat.reduceLeDiff, Nat.reduceLT, reduceCtorEq, decide_true, decide_false, List.length_map, Int.reduceLT, Int.reduceLE, Int.reduceBEq, Int.reduceAdd, Int.reduceSub, Int.reduceToNat] at g1 hb1 hn
      have hb0 : (b = 1) = False := by simp; omega
      simp only [go_sem, regs0, ↓reduceIte, Nat.reduceAdd, Nat.reduceEqDiff, Nat.reduceBEq, Nat.reduceBNe, Nat.reduceLeDiff, Nat.reduceLT, reduceCtorEq, decide_true, decide_false, List.length_map, Int.reduceLT, Int.reduceLE, Int.reduceBEq, Int.reduceAdd, Int.reduceSub, Int.reduceToNat, g1, hb0, Reads_eq, hb3, resB_mapF, max_next hc, eListeners]
    · obtain ⟨k, hk⟩ := Int.eq_ofNat_of_zero_le h1
      have h2 : k < l.list.l.length := by omega
      have hx : l.list.l[k]! = l.list.l[k] := getElem!_pos l.list.l k h2
      have e : removeR l node kind cb cap = (⟨some_ (l.list.l.filter (wo_p (l.list.l[k]).id)), next l⟩, (l.list.l[k]).id, 0) := by
        simp only [removeR, if_pos hc, hk, if_neg (show ¬ ((k : Int) < 0) by omega), Int.toNat_natCast, hx]
      rw [hk] at hfd
      rw [e]
      simp only [go_sem, regs0, ↓reduceIte, Nat.reduceAdd, Nat.reduceEqDiff, Nat.reduceBEq, Nat.reduceBNe, Nat.reduceLeDiff, Nat.reduceLT, reduceCtorEq, decide_true, decide_false, List.length_map, Int.reduceLT, Int.reduceLE, Int.reduceBEq, Int.reduceAdd, Int.reduceSub, Int.reduceToNat, hpl, hfd, nat_pos, Int.toNat_natCast, map_get h2, without_spec l _ (show l.list.l.length ≤ 2 ^ 31 by omega), max_next hc, show ((k : Int) < 0) = False by simp]
end Go.Proofs.Ytnijbejobbajfaa.L
