/- Shaken copy of a longer text: what one law needs. Its conditions: none. -/
import Derived.Test.YtnijbejobbajfaaZDSpListen5
set_option linter.unusedSimpArgs false
set_option linter.unusedVariables false
set_option linter.unusedSectionVars false
set_option linter.unnecessarySimpa false
namespace Go.Proofs.Ytnijbejobbajfaa.D
open Go.AI
def dueL (node : Int) (kind : List UInt8) (capture : Bool) (l : List Listener) : List Int :=
  (l.filter fun x => x.node == node && x.type_ == kind && x.capture == capture).map (·.id)
theorem dueL_cons (node : Int) (kind : List UInt8) (capture : Bool) (x : Listener) (l : List Listener) : dueL node kind capture (x :: l) = (if (x.node == node && x.type_ == kind && x.capture == capture) = true then [x.id] else []) ++ dueL node kind capture l := by
  simp only [dueL, List.filter_cons]
  split <;> simp
theorem prg_due_loop (l : Listeners) (node : Int) (kind : List UInt8) (capture : Bool) (hl : l.list.l.length ≤ 2 ^ 31) (s : St) (h32 : s.r 32 = .d (.list l.list.n (l.list.l.map eListener))) (h33 : s.r 33 = .d (.int .i64 l.list.l.length)) (h34 : s.r 34 = .d (.int .i64 0)) (h1 : s.r 1 = .d (.int .i64 node)) (h2 : s.r 2 = .d (.str kind)) (h4 : s.r 4 = .d (.bool capture)) (ho : s.r 13 = .d (.list true [])) :
    Wp prog (.loop c25B0) s (fun e s' => e = .exit 1 ∧ Grow s.h.next 1 s'.h (s'.r 13) ((dueL node kind capture l.list.l).map fun n => V.d (.int .i64 n))) := by
  refine Wp.rounds l.list.l.length (fun s0 k s => ∃ acc : List Int, s.r 34 = .d (.int .i64 k) ∧ Grow s0.h.next 1 s.h (s.r 13) (acc.map fun n => V.d (.int .i64 n)) ∧ acc.length ≤ k ∧ acc ++ dueL node kind capture (l.list.l.drop k) = dueL node kind capture l.list.l) ?_ ?_ ?_
  · exact ⟨[], by simpa using h34, by rw [ho]; exact Grow.nil, by simp, by simp⟩
  · rintro k s' hk hK ⟨acc, h34, hg, hal, hF⟩
    have r1 := (hK.reg 1 rfl).trans h1
    have r2 := (hK.reg 2 rfl).trans h2
    have r4 := (hK.reg 4 rfl).trans h4
    have r32 := (hK.reg 32 rfl).trans h32
    have r33 := (hK.reg 33 rfl).trans h33
    have hn := hK.next
    clear hK
    have hw := wrap_nat (show k < 2 ^ 62 by omega)
    rw [drop_cons hk] at hF
    have hroom : (acc.length + 1) * 8 ≤ AI.roomBytes := room_le (n := acc.length + 1) (bytes := 8) (by omega) (by decide)
    have hroom1 : 1 * 8 ≤ AI.roomBytes := room_le (n := 1) (bytes := 8) (by decide) (by decide)
    have hal' : (acc.map fun n => V.d (.int .i64 n)).length = acc.length := by simp
    rcases hg with ⟨ha, ho⟩ | ⟨b, ho, hb1, hb2, hb3, hb4⟩
    · have ha : acc = [] := by simpa using ha
      subst ha
      delta c25B0
      simp only [go_sem, regs0, ↓reduceIte, Nat.reduceAdd, Nat.reduceEqDiff, Nat.reduceBEq, Nat.reduceBNe, Nat.reduceLeDiff, Nat.reduceLT, reduceCtorEq, decide_true, decide_false, List.length_map, Int.reduceLT, Int.reduceLE, Int.reduceBEq, Int.reduceAdd, Int.reduceSub, Int.reduceToNat, r1, r2, r4, r32, r33, h34, ho, nat_lt, hk, nat_pos, Int.toNat_natCast, map_get hk]
      repeat' (first | (refine WGuard_splitN (fun hc => ?_) (fun hc => ?_) <;> (try simp only [go_sem, regs0, ↓reduceIte, Nat.reduceAdd, Nat.reduceEqDiff, Nat.reduceBEq, Nat.reduceBNe, Nat.reduceLeDiff, Nat.reduceLT, reduceCtorEq, decide_true, decide_false, List.length_map, Int.reduceLT, Int.reduceLE, Int.reduceBEq, Int.reduceAdd, Int.reduceSub, Int.reduceToNat, hc, r1, r2, r4, r32, r33, h34, ho, appV_eq, appO_one, elsB_one, sized_one, hroom1, appD_nil, low_ne' (Nat.le_refl s'.h.next)])) | (refine WBr_splitN (fun hc => ?_) (fun hc => ?_) <;> (try simp only [go_sem, regs0, ↓reduceIte, Nat.reduceAdd, Nat.reduceEqDiff, Nat.reduceBEq, Nat.reduceBNe, Nat.reduceLeDiff, Nat.reduceLT, reduceCtorEq, decide_true, decide_false, List.length_map, Int.reduceLT, Int.reduceLE, Int.reduceBEq, Int.reduceAdd, Int.reduceSub, Int.reduceToNat, hc, r1, r2, r4, r32, r33, h34, ho, appV_eq, appO_one, elsB_one, sized_one, hroom1, appD_nil, low_ne' (Nat.le_refl s'.h.next)])) | (refine WGuard_split (fun hc => ?_) (fun hc => ?_) <;> (try simp only [go_sem, regs0, ↓reduceIte, Nat.reduceAdd, Nat.reduceEqDiff, Nat.reduceBEq, Nat.reduceBNe, Nat.reduceLeDiff, Nat.reduceLT, reduceCtorEq, decide_true, decide_false, List.length_map, Int.reduceLT, Int.reduceLE, Int.reduceBEq, Int.reduceAdd, Int.reduceSub, Int.reduceToNat, hc, r1, r2, r4, r32, r33, h34, ho, appV_eq, appO_one, elsB_one, sized_one, hroom1, appD_nil, low_ne' (Nat.le_refl s'.h.next)])) | (refine WBr_split (fun hc => ?_) (fun hc => ?_) <;> (try simp only [go_sem, regs0, ↓reduceIte, Nat.reduceAdd, Nat.reduceEqDiff, Nat.reduceBEq, Nat.reduceBNe, Nat.reduceLeDiff, Nat.reduceLT, reduceCtorEq, decide_true, decide_false, List.length_map, Int.reduceLT, Int.reduceLE, Int.reduceBEq, Int.reduceAdd, Int.reduceSub, Int.reduceToNat, hc, r1, r2, r4, r32, r33, h34, ho, appV_eq, appO_one, elsB_one, sized_one, hroom1, appD_nil, low_ne' (Nat.le_refl s'.h.next)])))
      · have hd : (l.list.l[k].node == node && l.list.l[k].type_ == kind && l.list.l[k].capture == capture) = true := by simp_all
        rw [dueL_cons, if_pos hd] at hF
        exact ⟨[l.list.l[k].id], by rw [hw], .inr ⟨_, rfl, by omega, by simp only [go_sem, regs0, ↓reduceIte, Nat.reduceAdd, Nat.reduceEqDiff, Nat.reduceBEq, Nat.reduceBNe, Nat.reduceLeDiff, Nat.reduceLT, reduceCtorEq, decide_true, decide_false, List.length_map, Int.reduceLT, Int.reduceLE, Int.reduceBEq, Int.reduceAdd, Int.reduceSub, Int.reduceToNat]; omega, by simp only [go_sem, regs0, ↓reduceIte, Nat.reduceAdd, Nat.reduceEqDiff, Nat.reduceBEq, Nat.reduceBNe, Nat.reduceLeDiff, Nat.reduceLT, reduceCtorEq, decide_true, decide_false, List.length_map, Int.reduceLT, Int.reduceLE, Int.reduceBEq, Int.reduceAdd, Int.reduceSub, Int.reduceToNat], by simp⟩, by simp, hF⟩
      all_goals
        have hd : ¬ (l.list.l[k].node == node && l.list.l[k].type_ == kind && l.list.l[k].capture == capture) = true := by simp_all
        rw [dueL_cons, if_neg hd] at hF
        exact ⟨[], by rw [hw], .inl ⟨rfl, rfl⟩, by simp, hF⟩
    · simp only [List.length_map] at ho
      have hbne : ∀ j, (b = s'.h.next + j) = False := fun j => by simp; omega
      have hneb : ∀ j, (s'.h.next + j = b) = False := fun j => by simp; omega
      delta c25B0
      simp only [go_sem, regs0, ↓reduceIte, Nat.reduceAdd, Nat.reduceEqDiff, Nat.reduceBEq, Nat.reduceBNe, Nat.reduceLeDiff, Nat.reduceLT, reduceCtorEq, decide_true, decide_false, List.length_map, Int.reduceLT, Int.reduceLE, Int.reduceBEq, Int.reduceAdd, Int.reduceSub, Int.reduceToNat, r1, r2, r4, r32, r33, h34, ho, nat_lt, hk, nat_pos, Int.toNat_natCast, map_get hk]
      repeat' (first | (refine WGuard_splitN (fun hc => ?_) (fun hc => ?_) <;> (try simp only [go_sem, regs0, ↓reduceIte, Nat.reduceAdd, Nat.reduceEqDiff, Nat.reduceBEq, Nat.reduceBNe, Nat.reduceLeDiff, Nat.reduceLT, reduceCtorEq, decide_true, decide_false, List.length_map, Int.reduceLT, Int.reduceLE, Int.reduceBEq, Int.reduceAdd, Int.reduceSub, Int.reduceToNat, hc, r1, r2, r4, r32, r33, h34, ho, hb3, hbne, hneb, appV_eq, appO_one, elsB_one, sized_one, hroom, appB_some, hal', low_ne' (Nat.le_refl s'.h.next)])) | (refine WBr_splitN (fun hc => ?_) (fun hc => ?_) <;> (try simp only [go_sem, regs0, ↓reduceIte, Nat.reduceAdd, Nat.reduceEqDiff, Nat.reduceBEq, Nat.reduceBNe, Nat.reduceLeDiff, Nat.reduceLT, reduceCtorEq, decide_true, decide_false, List.length_map, Int.reduceLT, Int.reduceLE, Int.reduceBEq, Int.reduceAdd, Int.reduceSub, Int.reduceToNat, hc, r1, r2, r4, r32, r33, h34, ho, hb3, hbne, hneb, appV_eq, appO_one, elsB_one, sized_one, hroom, appB_some, hal', low_ne' (Nat.le_refl s'.h.next)])) | (refine WGuard_split (fun hc => ?_) (fun hc => ?_) <;> (try simp only [go_sem, regs0, ↓reduceIte, Nat.reduceAdd, Nat.reduceEqDiff, Nat.reduceBEq, Nat.reduceBNe, Nat.reduceLeDiff, Nat.reduceLT, reduceCtorEq, decide_true, decide_false, List.length_map, Int.reduceLT, Int.reduceLE, Int.reduceBEq, Int.reduceAdd, Int.reduceSub, Int.reduceToNat, hc, r1, r2, r4, r32, r33, h34, ho, hb3, hbne, hneb, appV_eq, appO_one, elsB_one, sized_one, hroom, appB_some, hal', low_ne' (Nat.le_refl s'.h.next)])) | (refine WBr_split (fun hc => ?_) (fun hc => ?_) <;> (try simp only [go_sem, regs0, ↓reduceIte, Nat.reduceAdd, Nat.reduceEqDiff, Nat.reduceBEq, Nat.reduceBNe, Nat.reduceLeDiff, Nat.reduceLT, reduceCtorEq, decide_true, decide_false, List.length_map, Int.reduceLT, Int.reduceLE, Int.reduceBEq, Int.reduceAdd, Int.reduceSub, Int.reduceToNat, hc, r1, r2, r4, r32, r33, h34, ho, hb3, hbne, hneb, appV_eq, appO_one, elsB_one, sized_one, hroom, appB_some, hal', low_ne' (Nat.le_refl s'.h.next)])))
      · have hd : (l.list.l[k].node == node && l.list.l[k].type_ == kind && l.list.l[k].capture == capture) = true := by simp_all
        rw [dueL_cons, if_pos hd, ← List.append_assoc] at hF
        exact ⟨acc ++ [l.list.l[k].id], by rw [hw], .inr ⟨s'.h.next + 25, by simp, by omega, by simp only [go_sem, regs0, ↓reduceIte, Nat.reduceAdd, Nat.reduceEqDiff, Nat.reduceBEq, Nat.reduceBNe, Nat.reduceLeDiff, Nat.reduceLT, reduceCtorEq, decide_true, decide_false, List.length_map, Int.reduceLT, Int.reduceLE, Int.reduceBEq, Int.reduceAdd, Int.reduceSub, Int.reduceToNat]; omega, by simp only [go_sem, regs0, ↓reduceIte, Nat.reduceAdd, Nat.reduceEqDiff, Nat.reduceBEq, Nat.reduceBNe, Nat.reduceLeDiff, Nat.reduceLT, reduceCtorEq, decide_true, decide_false, List.length_map, Int.reduceLT, Int.reduceLE, Int.reduceBEq, Int.reduceAdd, Int.reduceSub, Int.reduceToNat, List.map_append], by simp⟩, by simp; omega, hF⟩
      all_goals
        have hd : ¬ (l.list.l[k].node == node && l.list.l[k].type_ == kind && l.list.l[k].capture == capture) = true := by simp_all
        rw [dueL_cons, if_neg hd, List.nil_append] at hF
        exact ⟨acc, by rw [hw], .inr ⟨b, by simp, hb1, by simp only [go_sem, regs0, ↓reduceIte, Nat.reduceAdd, Nat.reduceEqDiff, Nat.reduceBEq, Nat.reduceBNe, Nat.reduceLeDiff, Nat.reduceLT, reduceCtorEq, decide_true, decide_false, List.length_map, Int.reduceLT, Int.reduceLE, Int.reduceBEq, Int.reduceAdd, Int.reduceSub, Int.reduceToNat]; omega, by simp only [go_sem, regs0, ↓reduceIte, Nat.reduceAdd, Nat.reduceEqDiff, Nat.reduceBEq, Nat.reduceBNe, Nat.reduceLeDiff, Nat.reduceLT, reduceCtorEq, decide_true, decide_false, List.length_map, Int.reduceLT, Int.reduceLE, Int.reduceBEq, Int.reduceAdd, Int.reduceSub, Int.reduceToNat, hb3, hbne], hb4⟩, by omega, hF⟩
  · rintro s' hK ⟨acc, h34, hg, hal, hF⟩
    have r33 := (hK.reg 33 rfl).trans h33
    delta c25B0
    simp only [go_sem, regs0, ↓reduceIte, Nat.reduceAdd, Nat.reduceEqDiff, Nat.reduceBEq, Nat.reduceBNe, Nat.reduceLeDiff, Nat.reduceLT, reduceCtorEq, decide_true, decide_false, List.length_map, Int.reduceLT, Int.reduceLE, Int.reduceBEq, Int.reduceAdd, Int.reduceSub, Int.reduceToNat, r33, h34, nat_lt, Nat.lt_irrefl]
    have : acc = dueL node kind capture l.list.l := by rw [← hF]; simp [dueL]
    rw [← this]
    exact hg.keep (by simp only [go_sem, regs0, ↓reduceIte, Nat.reduceAdd, Nat.reduceEqDiff, Nat.reduceBEq, Nat.reduceBNe, Nat.reduceLeDiff, Nat.reduceLT, reduceCtorEq, decide_true, decide_false, List.length_map, Int.reduceLT, Int.reduceLE, Int.reduceBEq, Int.reduceAdd, Int.reduceSub, Int.reduceToNat]; omega) fun _ _ _ => rfl
def due (l : Listeners) (node : Int) (kind : List UInt8) (phase : Int) (capture : Bool) : Sl Int × Int :=
  if check l = 0 then (if phase = 1 then (⟨(dueL node kind true l.list.l).isEmpty, dueL node kind true l.list.l⟩, 0) else if phase = 3 then (⟨(dueL node kind false l.list.l).isEmpty, dueL node kind false l.list.l⟩, 0)
    else if phase = 2 then (⟨(dueL node kind capture l.list.l).isEmpty, dueL node kind capture l.list.l⟩, 0) else (⟨true, []⟩, 23)) else (⟨true, []⟩, check l)
theorem prg_due (l : Listeners) (node : Int) (kind : List UInt8) (phase : Int) (capture : Bool) : pc prog 25 [eListeners l, .int .i64 node, .str kind, .int .u8 phase, .bool capture] = some (.tuple [eSl (D.int .i64) (due l node kind phase capture).1, .int .i64 (due l node kind phase capture).2]) := by
  refine pc_of (fn := c25) rfl rfl ?_
  delta c25
  simp only [go_sem, regs0, ↓reduceIte, Nat.reduceAdd, Nat.reduceEqDiff, Nat.reduceBEq, Nat.reduceBNe, Nat.reduceLeDiff, Nat.reduceLT, reduceCtorEq, decide_true, decide_false, List.length_map, Int.reduceLT, Int.reduceLE, Int.reduceBEq, Int.reduceAdd, Int.reduceSub, Int.reduceToNat, check_spec]
  repeat' (first | (refine WGuard_splitN (fun hc => ?_) (fun hc => ?_) <;> (try simp only [go_sem, regs0, ↓reduceIte, Nat.reduceAdd, Nat.reduceEqDiff, Nat.reduceBEq, Nat.reduceBNe, Nat.reduceLeDiff, Nat.reduceLT, reduceCtorEq, decide_true, decide_false, List.length_map, Int.reduceLT, Int.reduceLE, Int.reduceBEq, Int.reduceAdd, Int.reduceSub, Int.reduceToNat, hc, check_spec])) | (refine WBr_splitN (fun hc => ?_) (fun hc => ?_) <;> (try simp only [go_sem, regs0, ↓reduceIte, Nat.reduceAdd, Nat.reduceEqDiff, Nat.reduceBEq, Nat.reduceBNe, Nat.reduceLeDiff, Nat.reduceLT, reduceCtorEq, decide_true, decide_false, List.length_map, Int.reduceLT, Int.reduceLE, Int.reduceBEq, Int.reduceAdd, Int.reduceSub, Int.reduceToNat, hc, check_spec])) | (refine WGuard_split (fun hc => ?_) (fun hc => ?_) <;> (try simp only [go_sem, regs0, ↓reduceIte, Nat.reduceAdd, Nat.reduceEqDiff, Nat.reduceBEq, Nat.reduceBNe, Nat.reduceLeDiff, Nat.reduceLT, reduceCtorEq, decide_true, decide_false, List.length_map, Int.reduceLT, Int.reduceLE, Int.reduceBEq, Int.reduceAdd, Int.reduceSub, Int.reduceToNat, hc, check_spec])) | (refine WBr_split (fun hc => ?_) (fun hc => ?_) <;> (try simp only [go_sem, regs0, ↓reduceIte, Nat.reduceAdd, Nat.reduceEqDiff, Nat.reduceBEq, Nat.reduceBNe, Nat.reduceLeDiff, Nat.reduceLT, reduceCtorEq, decide_true, decide_false, List.length_map, Int.reduceLT, Int.reduceLE, Int.reduceBEq, Int.reduceAdd, Int.reduceSub, Int.reduceToNat, hc, check_spec])))
  · have hc : ¬ check l = 0 := by simpa using hc
    simp only [due, if_neg hc, List.map_nil, if_neg hc]
  · rename_i hc0
    have hc0 : check l = 0 := by simpa using hc0
    have hc : phase = 1 := by simpa using hc
    have hl := check_len hc0
    refine (prg_due_loop l node kind true (by omega) _ ?_ ?_ ?_ ?_ ?_ ?_ ?_).mono ?_
    iterate 7 (simp only [go_sem, regs0, ↓reduceIte, Nat.reduceAdd, Nat.reduceEqDiff, Nat.reduceBEq, Nat.reduceBNe, Nat.reduceLeDiff, Nat.reduceLT, reduceCtorEq, decide_true, decide_false, List.length_map, Int.reduceLT, Int.reduceLE, Int.reduceBEq, Int.reduceAdd, Int.reduceSub, Int.reduceToNat])
    rintro e s' ⟨rfl, hg⟩
    simp only [go_sem, regs0, ↓reduceIte, Nat.reduceAdd, Nat.reduceEqDiff, Nat.reduceBEq, Nat.reduceBNe, Nat.reduceLeDiff, Nat.reduceLT, reduceCtorEq, decide_true, decide_false, List.length_map, Int.reduceLT, Int.reduceLE, Int.reduceBEq, Int.reduceAdd, Int.reduceSub, Int.reduceToNat]
    rcases hg with ⟨ha, ho⟩ | ⟨b, ho, hb1, hb2, hb3, hb4⟩
    · have ha : dueL node kind true l.list.l = [] := by simpa using ha
      simp only [go_sem, regs0, ↓reduceIte, Nat.reduceAdd, Nat.reduceEqDiff, Nat.reduceBEq, Nat.reduceBNe, Nat.reduceLeDiff, Nat.reduceLT, reduceCtorEq, decide_true, decide_false, List.length_map, Int.reduceLT, Int.reduceLE, Int.reduceBEq, Int.reduceAdd, Int.reduceSub, Int.reduceToNat, ho, due, if_pos hc0, if_pos hc, ha, List.isEmpty_nil, List.map_nil]
    · have hb4 : dueL node kind true l.list.l ≠ [] := by simpa using hb4
      simp only [List.length_map] at ho
      simp only [go_sem, regs0, ↓reduceIte, Nat.reduceAdd, Nat.reduceEqDiff, Nat.reduceBEq, Nat.reduceBNe, Nat.reduceLeDiff, Nat.reduceLT, reduceCtorEq, decide_true, decide_false, List.length_map, Int.reduceLT, Int.reduceLE, Int.reduceBEq, Int.reduceAdd, Int.reduceSub, Int.reduceToNat, ho, Reads_eq, hb3, resB_mapF, due, if_pos hc0, if_pos hc, List.isEmpty_eq_false_iff.2 hb4]
  · rename_i hc0 h1
    have hc0 : check l = 0 := by simpa using hc0
    have h1 : ¬ phase = 1 := by simpa using h1
    have hc : phase = 3 := by simpa using hc
    have hl := check_len hc0
    refine (prg_due_loop l node kind false (by omega) _ ?_ ?_ ?_ ?_ ?_ ?_ ?_).mono ?_
    iterate 7 (simp only [go_sem, regs0, ↓reduceIte, Nat.reduceAdd, Nat.reduceEqDiff, Nat.reduceBEq, Nat.reduceBNe, Nat.reduceLeDiff, Nat.reduceLT, reduceCtorEq, decide_true, decide_false, List.length_map, Int.reduceLT, Int.reduceLE, Int.reduceBEq, Int.reduceAdd, Int.reduceSub, Int.reduceToNat])
    rintro e s' ⟨rfl, hg⟩
    simp only [go_sem, regs0, ↓reduceIte, Nat.reduceAdd, Nat.reduceEqDiff, Nat.reduceBEq, Nat.reduceBNe, Nat.reduceLeDiff, Nat.reduceLT, reduceCtorEq, decide_true, decide_false, List.length_map, Int.reduceLT, Int.reduceLE, Int.reduceBEq, Int.reduceAdd, Int.reduceSub, Int.reduceToNat]
    rcases hg with ⟨ha, ho⟩ | ⟨b, ho, hb1, hb2, hb3, hb4⟩
    · have ha : dueL node kind false l.list.l = [] := by simpa using ha
      simp only [go_sem, regs0, ↓reduceIte, Nat.reduceAdd, Nat.reduceEqDiff, Nat.reduceBEq, Nat.reduceBNe, Nat.reduceLeDiff, Nat.reduceLT, reduceCtorEq, decide_true, decide_false, List.length_map, Int.reduceLT, Int.reduceLE, Int.reduceBEq, Int.reduceAdd, Int.reduceSub, Int.reduceToNat, ho, due, if_pos hc0, if_neg h1, if_pos hc, ha, List.isEmpty_nil, List.map_nil]
    · have hb4 : dueL node kind false l.list.l ≠ [] := by simpa using hb4
      simp only [List.length_map] at ho
      simp only [go_sem, regs0, ↓reduceIte, Nat.reduceAdd, Nat.reduceEqDiff, Nat.reduceBEq, Nat.reduceBNe, Nat.reduceLeDiff, Nat.reduceLT, reduceCtorEq, decide_true, decide_false, List.length_map, Int.reduceLT, Int.reduceLE, Int.reduceBEq, Int.reduceAdd, Int.reduceSub, Int.reduceToNat, ho, Reads_eq, hb3, resB_mapF, due, if_pos hc0, if_neg h1, if_pos hc, List.isEmpty_eq_false_iff.2 hb4]
  · rename_i hc0 h1 h3
    have hc0 : check l = 0 := by simpa using hc0
    have h1 : ¬ phase = 1 := by simpa using h1
    have h3 : ¬ phase = 3 := by simpa using h3
    have hc : ¬ phase = 2 := by simpa using hc
    simp only [due, if_pos hc0, if_neg h1, if_neg h3, if_neg hc, List.map_nil]
  · rename_i hc0 h1 h3
    have hc0 : check l = 0 := by simpa using hc0
    have h1 : ¬ phase = 1 := by simpa using h1
    have h3 : ¬ phase = 3 := by simpa using h3
    have hc : phase = 2 := by simpa using hc
    have hl := check_len hc0
    refine (prg_due_loop l node kind capture (by omega) _ ?_ ?_ ?_ ?_ ?_ ?_ ?_).mono ?_
    iterate 7 (simp only [go_sem, regs0, ↓reduceIte, Nat.reduceAdd, Nat.reduceEqDiff, Nat.reduceBEq, Nat.reduceBNe, Nat.reduceLeDiff, Nat.reduceLT, reduceCtorEq, decide_true, decide_false, List.length_map, Int.reduceLT, Int.reduceLE, Int.reduceBEq, Int.reduceAdd, Int.reduceSub, Int.reduceToNat])
    rintro e s' ⟨rfl, hg⟩
    simp only [go_sem, regs0, ↓reduceIte, Nat.reduceAdd, Nat.reduceEqDiff, Nat.reduceBEq, Nat.reduceBNe, Nat.reduceLeDiff, Nat.reduceLT, reduceCtorEq, decide_true, decide_false, List.length_map, Int.reduceLT, Int.reduceLE, Int.reduceBEq, Int.reduceAdd, Int.reduceSub, Int.reduceToNat]
    rcases hg with ⟨ha, ho⟩ | ⟨b, ho, hb1, hb2, hb3, hb4⟩
    · have ha : dueL node kind capture l.list.l = [] := by simpa using ha
      simp only [go_sem, regs0, ↓reduceIte, Nat.reduceAdd, Nat.reduceEqDiff, Nat.reduceBEq, Nat.reduceBNe, Nat.reduceLeDiff, Nat.reduceLT, reduceCtorEq, decide_true, decide_false, List.length_map, Int.reduceLT, Int.reduceLE, Int.reduceBEq, Int.reduceAdd, Int.reduceSub, Int.reduceToNat, ho, due, if_pos hc0, if_neg h1, if_neg h3, if_pos hc, ha, List.isEmpty_nil, List.map_nil]
    · have hb4 : dueL node kind capture l.list.l ≠ [] := by simpa using hb4
      simp only [List.length_map] at ho
      simp only [go_sem, regs0, ↓reduceIte, Nat.reduceAdd, Nat.reduceEqDiff, Nat.reduceBEq, Nat.reduceBNe, Nat.reduceLeDiff, Nat.reduceLT, reduceCtorEq, decide_true, decide_false, List.length_map, Int.reduceLT, Int.reduceLE, Int.reduceBEq, Int.reduceAdd, Int.reduceSub, Int.reduceToNat, ho, Reads_eq, hb3, resB_mapF, due, if_pos hc0, if_neg h1, if_neg h3, if_pos hc, List.isEmpty_eq_false_iff.2 hb4]
end Go.Proofs.Ytnijbejobbajfaa.D
