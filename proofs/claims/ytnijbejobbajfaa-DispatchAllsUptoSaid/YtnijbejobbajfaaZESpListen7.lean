/- Shaken copy of a longer text: what one law needs. Its conditions: none. -/
import Derived.Test.YtnijbejobbajfaaZESpListen6
set_option linter.unusedSimpArgs false
set_option linter.unusedVariables false
set_option linter.unusedSectionVars false
set_option linter.unnecessarySimpa false
namespace Go.Proofs.Ytnijbejobbajfaa.E
open Go.AI
def wo_p (id : Int) (x : Listener) : Bool := !(x.id == id)
theorem wo_loop (id nx : Int) (b0 : Bool) (xs : List Listener) (hl : xs.length ≤ 2 ^ 31) (s : St) (a : Nat) (ha : a < s.h.next) (h1 : s.r 1 = .d (.int .i64 id)) (hS : s.r 13 = .d (.list b0 (xs.map eListener))) (hN : s.r 14 = .d (.int .i64 xs.length)) (hI : s.r 15 = .d (.int .i64 0)) (hP : s.r 5 = .ptr a 0 0) (hg : s.h.get a = some (.els 2 [.d (.agg [.list true [], .int .i64 nx])] 0)) :
    Wp prog (.loop c70B0) s (fun e s' => e = .exit 0 ∧ ∃ lv, s'.h.get a = some (.els 2 [V.ofCells [lv, .d (.int .i64 nx)]] 0) ∧ Grow s.h.next 8 s'.h lv ((xs.filter (wo_p id)).map fun x => V.d (eListener x)) ∧ ∀ c, c < s.h.next → c ≠ a → s'.h.get c = s.h.get c) := by
  have hrow : ∀ j, (a = s.h.next + j) = False := fun j => by simp; omega
  refine Wp.rounds xs.length (fun s0 k s => ∃ acc lv, s.r 15 = .d (.int .i64 k) ∧ s.h.get a = some (.els 2 [V.ofCells [lv, .d (.int .i64 nx)]] 0) ∧ Grow s0.h.next 8 s.h lv (acc.map fun x => V.d (eListener x)) ∧ acc.length ≤ k ∧ acc ++ (xs.drop k).filter (wo_p id) = xs.filter (wo_p id) ∧ ∀ c, c < s0.h.next → c ≠ a → s.h.get c = s0.h.get c) ?_ ?_ ?_
  · exact ⟨[], .d (.list true []), by simpa using hI, by rw [hg]; rfl, Grow.nil, by simp, by simp, fun _ _ _ => rfl⟩
  · rintro k s' hk hK ⟨acc, lv, hI, hga, hg, hal, hF, hLe⟩
    have r1 := (hK.reg 1 rfl).trans h1
    have rS := (hK.reg 13 rfl).trans hS
    have rN := (hK.reg 14 rfl).trans hN
    have rP := (hK.reg 5 rfl).trans hP
    have hn := hK.next
    clear hK
    have hw := wrap_nat (show k < 2 ^ 62 by omega)
    rw [drop_cons hk, List.filter_cons] at hF
    have hroom : (acc.length + 1) * 56 ≤ AI.roomBytes := room_le (n := acc.length + 1) (bytes := 56) (by omega) (by decide)
    have hroom1 : 1 * 56 ≤ AI.roomBytes := room_le (n := 1) (bytes := 56) (by decide) (by decide)
    have hal' : (acc.map fun x => V.d (eListener x)).length = acc.length := by simp
    have han : ∀ j, (a = s'.h.next + j) = False := fun j => by simp; omega
    have hna : ∀ j, (s'.h.next + j = a) = False := fun j => by simp; omega
    have han0 : (a = s'.h.next) = False := by simp; omega
    have hna0 : (s'.h.next = a) = False := by simp; omega
    rcases hg with ⟨hac, rfl⟩ | ⟨b, rfl, hb1, hb2, hb3, hb4⟩
    · have hac : acc = [] := by simpa using hac
      subst hac
      delta c70B0
      simp only [go_sem, regs0, ↓reduceIte, Nat.reduceAdd, Nat.reduceEqDiff, Nat.reduceBEq, Nat.reduceBNe, Nat.reduceLeDiff, Nat.reduceLT, reduceCtorEq, decide_true, decide_false, List.length_map, Int.reduceLT, Int.reduceLE, Int.reduceBEq, Int.reduceAdd, Int.reduceSub, Int.reduceToNat, r1, rS, rN, rP, hI, hga, han, hna, han0, hna0, nat_lt, hk, nat_pos, Int.toNat_natCast, map_get hk]
      repeat' (first | (refine WGuard_splitN (fun hc => ?_) (fun hc => ?_) <;> (try simp only [go_sem, regs0, ↓reduceIte, Nat.reduceAdd, Nat.reduceEqDiff, Nat.reduceBEq, Nat.reduceBNe, Nat.reduceLeDiff, Nat.reduceLT, reduceCtorEq, decide_true, decide_false, List.length_map, Int.reduceLT, Int.reduceLE, Int.reduceBEq, Int.reduceAdd, Int.reduceSub, Int.reduceToNat, hc, r1, rS, rN, rP, hI, hga, han, hna, han0, hna0, appV_eq, appO_one, elsB_one, sized_one, hroom1, appD_nil, low_ne' (Nat.le_refl s'.h.next)])) | (refine WBr_splitN (fun hc => ?_) (fun hc => ?_) <;> (try simp only [go_sem, regs0, ↓reduceIte, Nat.reduceAdd, Nat.reduceEqDiff, Nat.reduceBEq, Nat.reduceBNe, Nat.reduceLeDiff, Nat.reduceLT, reduceCtorEq, decide_true, decide_false, List.length_map, Int.reduceLT, Int.reduceLE, Int.reduceBEq, Int.reduceAdd, Int.reduceSub, Int.reduceToNat, hc, r1, rS, rN, rP, hI, hga, han, hna, han0, hna0, appV_eq, appO_one, elsB_one, sized_one, hroom1, appD_nil, low_ne' (Nat.le_refl s'.h.next)])) | (refine WGuard_split (fun hc => ?_) (fun hc => ?_) <;> (try simp only [go_sem, regs0, ↓reduceIte, Nat.reduceAdd, Nat.reduceEqDiff, Nat.reduceBEq, Nat.reduceBNe, Nat.reduceLeDiff, Nat.reduceLT, reduceCtorEq, decide_true, decide_false, List.length_map, Int.reduceLT, Int.reduceLE, Int.reduceBEq, Int.reduceAdd, Int.reduceSub, Int.reduceToNat, hc, r1, rS, rN, rP, hI, hga, han, hna, han0, hna0, appV_eq, appO_one, elsB_one, sized_one, hroom1, appD_nil, low_ne' (Nat.le_refl s'.h.next)])) | (refine WBr_split (fun hc => ?_) (fun hc => ?_) <;> (try simp only [go_sem, regs0, ↓reduceIte, Nat.reduceAdd, Nat.reduceEqDiff, Nat.reduceBEq, Nat.reduceBNe, Nat.reduceLeDiff, Nat.reduceLT, reduceCtorEq, decide_true, decide_false, List.length_map, Int.reduceLT, Int.reduceLE, Int.reduceBEq, Int.reduceAdd, Int.reduceSub, Int.reduceToNat, hc, r1, rS, rN, rP, hI, hga, han, hna, han0, hna0, appV_eq, appO_one, elsB_one, sized_one, hroom1, appD_nil, low_ne' (Nat.le_refl s'.h.next)])))
      all_goals first
        | (have hd : ¬ wo_p id xs[k] = true := by simp_all [wo_p]
           rw [if_neg hd] at hF
           exact ⟨[], .d (.list true []), by rw [hw], by simp only [go_sem, regs0, ↓reduceIte, Nat.reduceAdd, Nat.reduceEqDiff, Nat.reduceBEq, Nat.reduceBNe, Nat.reduceLeDiff, Nat.reduceLT, reduceCtorEq, decide_true, decide_false, List.length_map, Int.reduceLT, Int.reduceLE, Int.reduceBEq, Int.reduceAdd, Int.reduceSub, Int.reduceToNat, han, hna, han0, hna0, hga], Grow.nil, by simp, hF, fun c hc hca => by rw [← hLe c hc hca]; simp only [go_sem, regs0, ↓reduceIte, Nat.reduceAdd, Nat.reduceEqDiff, Nat.reduceBEq, Nat.reduceBNe, Nat.reduceLeDiff, Nat.reduceLT, reduceCtorEq, decide_true, decide_false, List.length_map, Int.reduceLT, Int.reduceLE, Int.reduceBEq, Int.reduceAdd, Int.reduceSub, Int.reduceToNat, hca, low_ne' hn c _ hc]⟩)
        | (have hd : wo_p id xs[k] = true := by simp_all [wo_p]
           rw [if_pos hd] at hF
           refine ⟨[xs[k]], _, by rw [hw], by simp only [go_sem, regs0, ↓reduceIte, Nat.reduceAdd, Nat.reduceEqDiff, Nat.reduceBEq, Nat.reduceBNe, Nat.reduceLeDiff, Nat.reduceLT, reduceCtorEq, decide_true, decide_false, List.length_map, Int.reduceLT, Int.reduceLE, Int.reduceBEq, Int.reduceAdd, Int.reduceSub, Int.reduceToNat, han, hna, han0, hna0], .inr ⟨s'.h.next + 13, rfl, by omega, by simp only [go_sem, regs0, ↓reduceIte, Nat.reduceAdd, Nat.reduceEqDiff, Nat.reduceBEq, Nat.reduceBNe, Nat.reduceLeDiff, Nat.reduceLT, reduceCtorEq, decide_true, decide_false, List.length_map, Int.reduceLT, Int.reduceLE, Int.reduceBEq, Int.reduceAdd, Int.reduceSub, Int.reduceToNat]; omega, by simp only [go_sem, regs0, ↓reduceIte, Nat.reduceAdd, Nat.reduceEqDiff, Nat.reduceBEq, Nat.reduceBNe, Nat.reduceLeDiff, Nat.reduceLT, reduceCtorEq, decide_true, decide_false, List.length_map, Int.reduceLT, Int.reduceLE, Int.reduceBEq, Int.reduceAdd, Int.reduceSub, Int.reduceToNat, hna, hna0], by simp⟩, by simp, by simpa using hF, fun c hc hca => by rw [← hLe c hc hca]; simp only [go_sem, regs0, ↓reduceIte, Nat.reduceAdd, Nat.reduceEqDiff, Nat.reduceBEq, Nat.reduceBNe, Nat.reduceLeDiff, Nat.reduceLT, reduceCtorEq, decide_true, decide_false, List.length_map, Int.reduceLT, Int.reduceLE, Int.reduceBEq, Int.reduceAdd, Int.reduceSub, Int.reduceToNat, hca, low_ne' hn c _ hc]⟩)
    · have hbne : ∀ j, (b = s'.h.next + j) = False := fun j => by simp; omega
      have hneb : ∀ j, (s'.h.next + j = b) = False := fun j => by simp; omega
      have hba : (b = a) = False := by simp; omega
      have hab : (a = b) = False := by simp; omega
      delta c70B0
      simp only [go_sem, regs0, ↓reduceIte, Nat.reduceAdd, Nat.reduceEqDiff, Nat.reduceBEq, Nat.reduceBNe, Nat.reduceLeDiff, Nat.reduceLT, reduceCtorEq, decide_true, decide_false, List.length_map, Int.reduceLT, Int.reduceLE, Int.reduceBEq, Int.reduceAdd, Int.reduceSub, Int.reduceToNat, r1, rS, rN, rP, hI, hga, han, hna, han0, hna0, nat_lt, hk, nat_pos, Int.toNat_natCast, map_get hk]
      repeat' (first | (refine WGuard_splitN (fun hc => ?_) (fun hc => ?_) <;> (try simp only [go_sem, regs0, ↓reduceIte, Nat.reduceAdd, Nat.reduceEqDiff, Nat.reduceBEq, Nat.reduceBNe, Nat.reduceLeDiff, Nat.reduceLT, reduceCtorEq, decide_true, decide_false, List.length_map, Int.reduceLT, Int.reduceLE, Int.reduceBEq, Int.reduceAdd, Int.reduceSub, Int.reduceToNat, hc, r1, rS, rN, rP, hI, hga, han, hna, han0, hna0, hb3, hbne, hneb, hba, hab, appV_eq, appO_one, elsB_one, sized_one, hroom, appB_some, hal', low_ne' (Nat.le_refl s'.h.next)])) | (refine WBr_splitN (fun hc => ?_) (fun hc => ?_) <;> (try simp only [go_sem, regs0, ↓reduceIte, Nat.reduceAdd, Nat.reduceEqDiff, Nat.reduceBEq, Nat.reduceBNe, Nat.reduceLeDiff, Nat.reduceLT, reduceCtorEq, decide_true, decide_false, List.length_map, Int.reduceLT, Int.reduceLE, Int.reduceBEq, Int.reduceAdd, Int.reduceSub, Int.reduceToNat, hc, r1, rS, rN, rP, hI, hga, han, hna, han0, hna0, hb3, hbne, hneb, hba, hab, appV_eq, appO_one, elsB_one, sized_one, hroom, appB_some, hal', low_ne' (Nat.le_refl s'.h.next)])) | (refine WGuard_split (fun hc => ?_) (fun hc => ?_) <;> (try simp only [go_sem, regs0, ↓reduceIte, Nat.reduceAdd, Nat.reduceEqDiff, Nat.reduceBEq, Nat.reduceBNe, Nat.reduceLeDiff, Nat.reduceLT, reduceCtorEq, decide_true, decide_false, List.length_map, Int.reduceLT, Int.reduceLE, Int.reduceBEq, Int.reduceAdd, Int.reduceSub, Int.reduceToNat, hc, r1, rS, rN, rP, hI, hga, han, hna, han0, hna0, hb3, hbne, hneb, hba, hab, appV_eq, appO_one, elsB_one, sized_one, hroom, appB_some, hal', low_ne' (Nat.le_refl s'.h.next)])) | (refine WBr_split (fun hc => ?_) (fun hc => ?_) <;> (try simp only [go_sem, regs0, ↓reduceIte, Nat.reduceAdd, Nat.reduceEqDiff, Nat.reduceBEq, Nat.reduceBNe, Nat.reduceLeDiff, Nat.reduceLT, reduceCtorEq, decide_true, decide_false, List.length_map, Int.reduceLT, Int.reduceLE, Int.reduceBEq, Int.reduceAdd, Int.reduceSub, Int.reduceToNat, hc, r1, rS, rN, rP, hI, hga, han, hna, han0, hna0, hb3, hbne, hneb, hba, hab, appV_eq, appO_one, elsB_one, sized_one, hroom, appB_some, hal', low_ne' (Nat.le_refl s'.h.next)])))
      all_goals first
        | (have hd : ¬ wo_p id xs[k] = true := by simp_all [wo_p]
           rw [if_neg hd] at hF
           exact ⟨acc, .sl b 0 acc.length, by rw [hw], by simp only [go_sem, regs0, ↓reduceIte, Nat.reduceAdd, Nat.reduceEqDiff, Nat.reduceBEq, Nat.reduceBNe, Nat.reduceLeDiff, Nat.reduceLT, reduceCtorEq, decide_true, decide_false, List.length_map, Int.reduceLT, Int.reduceLE, Int.reduceBEq, Int.reduceAdd, Int.reduceSub, Int.reduceToNat, han, hna, han0, hna0, hga, hal'], .inr ⟨b, by simp, hb1, by simp only [go_sem, regs0, ↓reduceIte, Nat.reduceAdd, Nat.reduceEqDiff, Nat.reduceBEq, Nat.reduceBNe, Nat.reduceLeDiff, Nat.reduceLT, reduceCtorEq, decide_true, decide_false, List.length_map, Int.reduceLT, Int.reduceLE, Int.reduceBEq, Int.reduceAdd, Int.reduceSub, Int.reduceToNat]; omega, by simp only [go_sem, regs0, ↓reduceIte, Nat.reduceAdd, Nat.reduceEqDiff, Nat.reduceBEq, Nat.reduceBNe, Nat.reduceLeDiff, Nat.reduceLT, reduceCtorEq, decide_true, decide_false, List.length_map, Int.reduceLT, Int.reduceLE, Int.reduceBEq, Int.reduceAdd, Int.reduceSub, Int.reduceToNat, hb3, hbne], hb4⟩, by omega, hF, fun c hc hca => by rw [← hLe c hc hca]; simp only [go_sem, regs0, ↓reduceIte, Nat.reduceAdd, Nat.reduceEqDiff, Nat.reduceBEq, Nat.reduceBNe, Nat.reduceLeDiff, Nat.reduceLT, reduceCtorEq, decide_true, decide_false, List.length_map, Int.reduceLT, Int.reduceLE, Int.reduceBEq, Int.reduceAdd, Int.reduceSub, Int.reduceToNat, hca, low_ne' hn c _ hc]⟩)
        | (have hd : wo_p id xs[k] = true := by simp_all [wo_p]
           rw [if_pos hd] at hF
           exact ⟨acc ++ [xs[k]], .sl (s'.h.next + 13) 0 (acc.length + 1), by rw [hw], by simp only [go_sem, regs0, ↓reduceIte, Nat.reduceAdd, Nat.reduceEqDiff, Nat.reduceBEq, Nat.reduceBNe, Nat.reduceLeDiff, Nat.reduceLT, reduceCtorEq, decide_true, decide_false, List.length_map, Int.reduceLT, Int.reduceLE, Int.reduceBEq, Int.reduceAdd, Int.reduceSub, Int.reduceToNat, han, hna, han0, hna0, hba, hab], .inr ⟨s'.h.next + 13, by simp, by omega, by simp only [go_sem, regs0, ↓reduceIte, Nat.reduceAdd, Nat.reduceEqDiff, Nat.reduceBEq, Nat.reduceBNe, Nat.reduceLeDiff, Nat.reduceLT, reduceCtorEq, decide_true, decide_false, List.length_map, Int.reduceLT, Int.reduceLE, Int.reduceBEq, Int.reduceAdd, Int.reduceSub, Int.reduceToNat]; omega, by simp only [go_sem, regs0, ↓reduceIte, Nat.reduceAdd, Nat.reduceEqDiff, Nat.reduceBEq, Nat.reduceBNe, Nat.reduceLeDiff, Nat.reduceLT, reduceCtorEq, decide_true, decide_false, List.length_map, Int.reduceLT, Int.reduceLE, Int.reduceBEq, Int.reduceAdd, Int.reduceSub, Int.reduceToNat, hna, hna0, List.map_append], by simp⟩, by simp; omega, by rw [List.append_assoc]; exact hF, fun c hc hca => by
             have hcb : (c = b) = False := by simp; omega
             rw [← hLe c hc hca]; simp only [go_sem, regs0, ↓reduceIte, Nat.reduceAdd, Nat.reduceEqDiff, Nat.reduceBEq, Nat.reduceBNe, Nat.reduceLeDiff, Nat.reduceLT, reduceCtorEq, decide_true, decide_false, List.length_map, Int.reduceLT, Int.reduceLE, Int.reduceBEq, Int.reduceAdd, Int.reduceSub, Int.reduceToNat, hca, hcb, low_ne' hn c _ hc]⟩)
  · rintro s' hK ⟨acc, lv, hI, hga, hg, hal, hF, hLe⟩
    have rN := (hK.reg 14 rfl).trans hN
    have hn := hK.next
    delta c70B0
    simp only [go_sem, regs0, ↓reduceIte, Nat.reduceAdd, Nat.reduceEqDiff, Nat.reduceBEq, Nat.reduceBNe, Nat.reduceLeDiff, Nat.reduceLT, reduceCtorEq, decide_true, decide_false, List.length_map, Int.reduceLT, Int.reduceLE, Int.reduceBEq, Int.reduceAdd, Int.reduceSub, Int.reduceToNat, rN, hI, nat_lt, Nat.lt_irrefl]
    have : acc = xs.filter (wo_p id) := by rw [← hF]; simp
    rw [← this]
    exact ⟨lv, hga, hg.keep (by simp only [go_sem, regs0, ↓reduceIte, Nat.reduceAdd, Nat.reduceEqDiff, Nat.reduceBEq, Nat.reduceBNe, Nat.reduceLeDiff, Nat.reduceLT, reduceCtorEq, decide_true, decide_false, List.length_map, Int.reduceLT, Int.reduceLE, Int.reduceBEq, Int.reduceAdd, Int.reduceSub, Int.reduceToNat]; omega) fun _ _ _ => rfl, fun c hc hca => hLe c hc hca⟩
theorem max_next {l : Listeners} (h : check l = 0) : max l.next 1 = next l := by
  unfold check at h
  unfold next
  split at h
  · rename_i hc; rw [hc.1, hc.2]; decide
  · rename_i hc
    split at h
    · cases h
    · rename_i hc2
      have : ¬ ((l.next == 0 && l.list.l.length == 0) = true) := by simp; omega
      rw [if_neg this]; omega
theorem without_spec (l : Listeners) (id : Int) (hl : l.list.l.length ≤ 2 ^ 31) : pc prog 70 [eListeners l, .int .i64 id] = some (eListeners ⟨some_ (l.list.l.filter (wo_p id)), max l.next 1⟩) := by
  refine pc_of (fn := c70) rfl rfl ?_
  delta c70
  simp only [go_sem, regs0, ↓reduceIte, Nat.reduceAdd, Nat.reduceEqDiff, Nat.reduceBEq, Nat.reduceBNe, Nat.reduceLeDiff, Nat.reduceLT, reduceCtorEq, decide_true, decide_false, List.length_map, Int.reduceLT, Int.reduceLE, Int.reduceBEq, Int.reduceAdd, Int.reduceSub, Int.reduceToNat]
  refine (Wp.with_kept (wo_loop id (max l.next 1) l.list.n l.list.l (by omega) _ 6 ?_ ?_ ?_ ?_ ?_ ?_ ?_)).mono ?_
  iterate 7 (simp only [go_sem, regs0, ↓reduceIte, Nat.reduceAdd, Nat.reduceEqDiff, Nat.reduceBEq, Nat.reduceBNe, Nat.reduceLeDiff, Nat.reduceLT, reduceCtorEq, decide_true, decide_false, List.length_map, Int.reduceLT, Int.reduceLE, Int.reduceBEq, Int.reduceAdd, Int.reduceSub, Int.reduceToNat])
  rintro e s ⟨K, rfl, lv, hga, hg, hLe⟩
  have r4 := K.reg 4 rfl
  have r5 := K.reg 5 rfl
  have g1 := hLe 1 (by simp only [go_sem, regs0, ↓reduceIte, Nat.reduceAdd, Nat.reduceEqDiff, Nat.reduceBEq, Nat.reduceBNe, Nat.reduceLeDiff, Nat.reduceLT, reduceCtorEq, decide_true, decide_false, List.length_map, Int.reduceLT, Int.reduceLE, Int.reduceBEq, Int.reduceAdd, Int.reduceSub, Int.reduceToNat]) (by decide)
  simp only [go_sem, regs0, ↓reduceIte, Nat.reduceAdd, Nat.reduceEqDiff, Nat.reduceBEq, Nat.reduceBNe, Nat.reduceLeDiff, Nat.reduceLT, reduceCtorEq, decide_true, decide_false, List.length_map, Int.reduceLT, Int.reduceLE, Int.reduceBEq, Int.reduceAdd, Int.reduceSub, Int.reduceToNat] at r4 r5 g1
  simp only [go_sem, regs0, ↓reduceIte, Nat.reduceAdd, Nat.reduceEqDiff, Nat.reduceBEq, Nat.reduceBNe, Nat.reduceLeDiff, Nat.reduceLT, reduceCtorEq, decide_true, decide_false, List.length_map, Int.reduceLT, Int.reduceLE, Int.reduceBEq, Int.reduceAdd, Int.reduceSub, Int.reduceToNat] at hg
  rcases hg with ⟨ha, rfl⟩ | ⟨b, rfl, hb1, hb2, hb3, hb4⟩
  · have ha : l.list.l.filter (wo_p id) = [] := by simpa using ha
    simp only [go_sem, regs0, ↓reduceIte, Nat.reduceAdd, Nat.reduceEqDiff, Nat.reduceBEq, Nat.reduceBNe, Nat.reduceLeDiff, Nat.reduceLT, reduceCtorEq, decide_true, decide_false, List.length_map, Int.reduceLT, Int.reduceLE, Int.reduceBEq, Int.reduceAdd, Int.reduceSub, Int.reduceToNat, r4, r5, g1, hga, some_, ha, List.isEmpty_nil, List.map_nil, eListeners, some_]
  · have hb4 : l.list.l.filter (wo_p id) ≠ [] := by simpa using hb4
    have hb0 : ∀ j, j < 12 → (b = j) = False := fun j hj => by simp; omega
    have h0b : ∀ j, j < 12 → (j = b) = False := fun j hj => by simp; omega
    simp only [go_sem, regs0, ↓reduceIte, Nat.reduceAdd, Nat.reduceEqDiff, Nat.reduceBEq, Nat.reduceBNe, Nat.reduceLeDiff, Nat.reduceLT, reduceCtorEq, decide_true, decide_false, List.length_map, Int.reduceLT, Int.reduceLE, Int.reduceBEq, Int.reduceAdd, Int.reduceSub, Int.reduceToNat, r4, r5, g1, hga, hb0, h0b, Reads_eq, hb3, resB_mapF, some_, List.isEmpty_eq_false_iff.2 hb4, eListeners, some_]
theorem expire_ref (l : Listeners) (id : Int) : pc prog 35 [eListeners l, .int .i64 id] = some (.tuple [eListeners (expire l id).1, .bool (expire l id).2.1, .int .i64 (expire l id).2.2]) := by
  refine pc_of (fn := c35) rfl rfl ?_
  delta c35
  simp only [go_sem, regs0, ↓reduceIte, Nat.reduceAdd, Nat.reduceEqDiff, Nat.reduceBEq, Nat.reduceBNe, Nat.reduceLeDiff, Nat.reduceLT, reduceCtorEq, decide_true, decide_false, List.length_map, Int.reduceLT, Int.reduceLE, Int.reduceBEq, Int.reduceAdd, Int.reduceSub, Int.reduceToNat, check_ref]
  repeat' (first | (refine WGuard_splitN (fun hc => ?_) (fun hc => ?_) <;> (try simp only [go_sem, regs0, ↓reduceIte, Nat.reduceAdd, Nat.reduceEqDiff, Nat.reduceBEq, Nat.reduceBNe, Nat.reduceLeDiff, Nat.reduceLT, reduceCtorEq, decide_true, decide_false, List.length_map, Int.reduceLT, Int.reduceLE, Int.reduceBEq, Int.reduceAdd, Int.reduceSub, Int.reduceToNat, hc, check_ref])) | (refine WBr_splitN (fun hc => ?_) (fun hc => ?_) <;> (try simp only [go_sem, regs0, ↓reduceIte, Nat.reduceAdd, Nat.reduceEqDiff, Nat.reduceBEq, Nat.reduceBNe, Nat.reduceLeDiff, Nat.reduceLT, reduceCtorEq, decide_true, decide_false, List.length_map, Int.reduceLT, Int.reduceLE, Int.reduceBEq, Int.reduceAdd, Int.reduceSub, Int.reduceToNat, hc, check_ref])) | (refine WGuard_split (fun hc => ?_) (fun hc => ?_) <;> (try simp only [go_sem, regs0, ↓reduceIte, Nat.reduceAdd, Nat.reduceEqDiff, Nat.reduceBEq, Nat.reduceBNe, Nat.reduceLeDiff, Nat.reduceLT, reduceCtorEq, decide_true, decide_false, List.length_map, Int.reduceLT, Int.reduceLE, Int.reduceBEq, Int.reduceAdd, Int.reduceSub, Int.reduceToNat, hc, check_ref])) | (refine WBr_split (fun hc => ?_) (fun hc => ?_) <;> (try simp only [go_sem, regs0, ↓reduceIte, Nat.reduceAdd, Nat.reduceEqDiff, Nat.reduceBEq, Nat.reduceBNe, Nat.reduceLeDiff, Nat.reduceLT, reduceCtorEq, decide_true, decide_false, List.length_map, Int.reduceLT, Int.reduceLE, Int.reduceBEq, Int.reduceAdd, Int.reduceSub, Int.reduceToNat, hc, check_ref])))
  · have hc : ¬ check l = 0 := by simpa using hc
    have e : expire l id = (.zero, false, 2) := by rw [expire, if_neg hc, check_two hc]
    simp only [e, eListeners, Listeners.zero, List.map_nil]
  · have hc : check l = 0 := by simpa using hc
    have hl := check_len hc
    simp only [go_sem, regs0, ↓reduceIte, Nat.reduceAdd, Nat.reduceEqDiff, Nat.reduceBEq, Nat.reduceBNe, Nat.reduceLeDiff, Nat.reduceLT, reduceCtorEq, decide_true, decide_false, List.length_map, Int.reduceLT, Int.reduceLE, Int.reduceBEq, Int.reduceAdd, Int.reduceSub, Int.reduceToNat, without_spec l id (by omega), max_next hc, expire, if_pos hc, some_, Int.ofNat_lt]
    rfl
end Go.Proofs.Ytnijbejobbajfaa.E
