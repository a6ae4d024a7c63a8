/- Shaken copy of a longer text: what one law needs. Its conditions: none. -/
import Derived.Test.YtnijbejobbajfaaZDSpListen1
set_option linter.unusedSimpArgs false
set_option linter.unusedVariables false
set_option linter.unusedSectionVars false
set_option linter.unnecessarySimpa false
namespace Go.Proofs.Ytnijbejobbajfaa.D
open Go.AI
def okL (last nx : Int) (pre : List Listener) (x : Listener) : Bool :=
  decide (last < x.id) && decide (x.id < nx) && decide (find x pre 0 < 0) && x.callback != 0 && decide (1 ≤ x.node) && decide (x.type_.length ≤ 1024) && (x.passive == 1 || x.passive == 2)
def chk (nx : Int) : List Listener → Int → List Listener → Bool
  | _, _, [] => true
  | pre, last, x :: r => okL last nx pre x && chk nx (pre ++ [x]) x.id r
def check (l : Listeners) : Int :=
  if l.list.l.length = 0 ∧ l.next = 0 then 0 else if 1024 < l.list.l.length ∨ l.next < 1 ∨ 1099511627776 < l.next then 2 else if chk l.next [] 0 l.list.l then 0 else 2
theorem chk_loop_ref (l : Listeners) (hlen : l.list.l.length ≤ 1024) (s : St) (h1 : s.r 1 = .ptr 0 0 0) (h30 : s.r 30 = .d (.list l.list.n (l.list.l.map eListener))) (h31 : s.r 31 = .d (.int .i64 l.list.l.length)) (h32 : s.r 32 = .d (.int .i64 0)) (h3 : s.r 3 = .d (.int .i64 0))
    (hh : s.h.get 0 = some (.els 2 [.d (eListeners l)] 0)) (hn : 1 ≤ s.h.next) :
    Wp prog (.loop c22B0) s (fun e s' => (e = .exit 0 ∧ chk l.next [] 0 l.list.l = true) ∨ (e = .ret ∧ chk l.next [] 0 l.list.l = false ∧ s'.r 2 = .d (.int .i64 2))) := by
  refine Wp.rounds l.list.l.length (fun s0 k s => ∃ last, s.r 32 = .d (.int .i64 k) ∧ s.r 3 = .d (.int .i64 last) ∧ s.h.get 0 = s0.h.get 0 ∧ chk l.next (l.list.l.take k) last (l.list.l.drop k) = chk l.next [] 0 l.list.l) ?_ ?_ ?_
  · exact ⟨0, by simpa using h32, h3, rfl, by simp⟩
  · rintro k s hk hK ⟨last, h32, h3, h0, hF⟩
    have r1 := (hK.reg 1 rfl).trans h1
    have r30 := (hK.reg 30 rfl).trans h30
    have r31 := (hK.reg 31 rfl).trans h31
    have hn := Nat.le_trans hn hK.next
    rw [hh] at h0
    have hw := wrap_nat (show k < 2 ^ 62 by omega)
    have hfd := find_spec (l.list.l.take k) l.list.n l.list.l[k] (by simp; omega)
    rw [drop_cons hk, chk] at hF
    clear hK
    delta c22B0
    simp only [go_sem, regs0, ↓reduceIte, Nat.reduceAdd, Nat.reduceEqDiff, Nat.reduceBEq, Nat.reduceBNe, Nat.reduceLeDiff, Nat.reduceLT, reduceCtorEq, decide_true, decide_false, List.length_map, Int.reduceLT, Int.reduceLE, Int.reduceBEq, Int.reduceAdd, Int.reduceSub, Int.reduceToNat, r1, r30, r31, h32, h3, h0, nat_lt, hk, nat_pos, Int.toNat_natCast, map_get hk, low_ne' hn, sliceV_to eListener_len (by decide : 8 ≠ 0) (Nat.le_of_lt hk), hfd]
    repeat' (first | (refine WGuard_splitN (fun hc => ?_) (fun hc => ?_) <;> (try simp only [go_sem, regs0, ↓reduceIte, Nat.reduceAdd, Nat.reduceEqDiff, Nat.reduceBEq, Nat.reduceBNe, Nat.reduceLeDiff, Nat.reduceLT, reduceCtorEq, decide_true, decide_false, List.length_map, Int.reduceLT, Int.reduceLE, Int.reduceBEq, Int.reduceAdd, Int.reduceSub, Int.reduceToNat, hc, r1, r30, r31, h32, h3, h0, nat_lt, hk, nat_pos, Int.toNat_natCast, map_get hk, low_ne' hn, sliceV_to eListener_len (by decide : 8 ≠ 0) (Nat.le_of_lt hk), hfd])) | (refine WBr_splitN (fun hc => ?_) (fun hc => ?_) <;> (try simp only [go_sem, regs0, ↓reduceIte, Nat.reduceAdd, Nat.reduceEqDiff, Nat.reduceBEq, Nat.reduceBNe, Nat.reduceLeDiff, Nat.reduceLT, reduceCtorEq, decide_true, decide_false, List.length_map, Int.reduceLT, Int.reduceLE, Int.reduceBEq, Int.reduceAdd, Int.reduceSub, Int.reduceToNat, hc, r1, r30, r31, h32, h3, h0, nat_lt, hk, nat_pos, Int.toNat_natCast, map_get hk, low_ne' hn, sliceV_to eListener_len (by decide : 8 ≠ 0) (Nat.le_of_lt hk), hfd])) | (refine WGuard_split (fun hc => ?_) (fun hc => ?_) <;> (try simp only [go_sem, regs0, ↓reduceIte, Nat.reduceAdd, Nat.reduceEqDiff, Nat.reduceBEq, Nat.reduceBNe, Nat.reduceLeDiff, Nat.reduceLT, reduceCtorEq, decide_true, decide_false, List.length_map, Int.reduceLT, Int.reduceLE, Int.reduceBEq, Int.reduceAdd, Int.reduceSub, Int.reduceToNat, hc, r1, r30, r31, h32, h3, h0, nat_lt, hk, nat_pos, Int.toNat_natCast, map_get hk, low_ne' hn, sliceV_to eListener_len (by decide : 8 ≠ 0) (Nat.le_of_lt hk), hfd])) | (refine WBr_split (fun hc => ?_) (fun hc => ?_) <;> (try simp only [go_sem, regs0, ↓reduceIte, Nat.reduceAdd, Nat.reduceEqDiff, Nat.reduceBEq, Nat.reduceBNe, Nat.reduceLeDiff, Nat.reduceLT, reduceCtorEq, decide_true, decide_false, List.length_map, Int.reduceLT, Int.reduceLE, Int.reduceBEq, Int.reduceAdd, Int.reduceSub, Int.reduceToNat, hc, r1, r30, r31, h32, h3, h0, nat_lt, hk, nat_pos, Int.toNat_natCast, map_get hk, low_ne' hn, sliceV_to eListener_len (by decide : 8 ≠ 0) (Nat.le_of_lt hk), hfd])))
    all_goals (first
      | (refine .inr ?_
         have hok : okL last l.next (l.list.l.take k) l.list.l[k] = false := by clear hF hfd; simp_all [okL] <;> omega
         simp only [hok, Bool.false_and] at hF
         simp [← hF])
      | (refine ⟨_, by rw [hw], rfl, hh.symm, ?_⟩
         have hok : okL last l.next (l.list.l.take k) l.list.l[k] = true := by clear hF hfd; simp_all [okL] <;> omega
         rw [hok, Bool.true_and] at hF
         rw [take_next hk]; exact hF))
  · rintro s hK ⟨last, h32, h3, h0, hF⟩
    have r31 := (hK.reg 31 rfl).trans h31
    delta c22B0
    simp only [go_sem, regs0, ↓reduceIte, Nat.reduceAdd, Nat.reduceEqDiff, Nat.reduceBEq, Nat.reduceBNe, Nat.reduceLeDiff, Nat.reduceLT, reduceCtorEq, decide_true, decide_false, List.length_map, Int.reduceLT, Int.reduceLE, Int.reduceBEq, Int.reduceAdd, Int.reduceSub, Int.reduceToNat, r31, h32, nat_lt, Nat.lt_irrefl]
    simpa [chk] using hF
theorem check_ref (l : Listeners) : pc prog 22 [eListeners l] = some (.int .i64 (check l)) := by
  refine pc_of (fn := c22) rfl rfl ?_
  delta c22
  simp only [go_sem, regs0, ↓reduceIte, Nat.reduceAdd, Nat.reduceEqDiff, Nat.reduceBEq, Nat.reduceBNe, Nat.reduceLeDiff, Nat.reduceLT, reduceCtorEq, decide_true, decide_false, List.length_map, Int.reduceLT, Int.reduceLE, Int.reduceBEq, Int.reduceAdd, Int.reduceSub, Int.reduceToNat]
  repeat' (first | (refine WGuard_splitN (fun hc => ?_) (fun hc => ?_) <;> (try simp only [go_sem, regs0, ↓reduceIte, Nat.reduceAdd, Nat.reduceEqDiff, Nat.reduceBEq, Nat.reduceBNe, Nat.reduceLeDiff, Nat.reduceLT, reduceCtorEq, decide_true, decide_false, List.length_map, Int.reduceLT, Int.reduceLE, Int.reduceBEq, Int.reduceAdd, Int.reduceSub, Int.reduceToNat, hc])) | (refine WBr_splitN (fun hc => ?_) (fun hc => ?_) <;> (try simp only [go_sem, regs0, ↓reduceIte, Nat.reduceAdd, Nat.reduceEqDiff, Nat.reduceBEq, Nat.reduceBNe, Nat.reduceLeDiff, Nat.reduceLT, reduceCtorEq, decide_true, decide_false, List.length_map, Int.reduceLT, Int.reduceLE, Int.reduceBEq, Int.reduceAdd, Int.reduceSub, Int.reduceToNat, hc])) | (refine WGuard_split (fun hc => ?_) (fun hc => ?_) <;> (try simp only [go_sem, regs0, ↓reduceIte, Nat.reduceAdd, Nat.reduceEqDiff, Nat.reduceBEq, Nat.reduceBNe, Nat.reduceLeDiff, Nat.reduceLT, reduceCtorEq, decide_true, decide_false, List.length_map, Int.reduceLT, Int.reduceLE, Int.reduceBEq, Int.reduceAdd, Int.reduceSub, Int.reduceToNat, hc])) | (refine WBr_split (fun hc => ?_) (fun hc => ?_) <;> (try simp only [go_sem, regs0, ↓reduceIte, Nat.reduceAdd, Nat.reduceEqDiff, Nat.reduceBEq, Nat.reduceBNe, Nat.reduceLeDiff, Nat.reduceLT, reduceCtorEq, decide_true, decide_false, List.length_map, Int.reduceLT, Int.reduceLE, Int.reduceBEq, Int.reduceAdd, Int.reduceSub, Int.reduceToNat, hc])))
  all_goals first
    | (simp_all [check]; done)
    | (simp_all [check]; intros; omega)
    | (have hcs : l.list.l.length ≤ 1024 ∧ check l = if chk l.next [] 0 l.list.l then 0 else 2 := by
         have : ¬ (l.list.l.length = 0 ∧ l.next = 0) ∧ ¬ (1024 < l.list.l.length ∨ l.next < 1 ∨ 1099511627776 < l.next) := by simp_all <;> omega
         exact ⟨by omega, by rw [check, if_neg this.1, if_neg this.2]⟩
       refine (chk_loop_ref l hcs.1 _ ?_ ?_ ?_ ?_ ?_ ?_ ?_).mono fun e s' hq => ?_
       all_goals try (simp only [go_sem, regs0, ↓reduceIte, Nat.reduceAdd, Nat.reduceEqDiff, Nat.reduceBEq, Nat.reduceBNe, Nat.reduceLeDiff, Nat.reduceLT, reduceCtorEq, decide_true, decide_false, List.length_map, Int.reduceLT, Int.reduceLE, Int.reduceBEq, Int.reduceAdd, Int.reduceSub, Int.reduceToNat]; done)
       rcases hq with ⟨rfl, h⟩ | ⟨rfl, h, h2⟩
       · simp only [go_sem, regs0, ↓reduceIte, Nat.reduceAdd, Nat.reduceEqDiff, Nat.reduceBEq, Nat.reduceBNe, Nat.reduceLeDiff, Nat.reduceLT, reduceCtorEq, decide_true, decide_false, List.length_map, Int.reduceLT, Int.reduceLE, Int.reduceBEq, Int.reduceAdd, Int.reduceSub, Int.reduceToNat, hcs.2, h]
       · simp only [go_sem, regs0, ↓reduceIte, Nat.reduceAdd, Nat.reduceEqDiff, Nat.reduceBEq, Nat.reduceBNe, Nat.reduceLeDiff, Nat.reduceLT, reduceCtorEq, decide_true, decide_false, List.length_map, Int.reduceLT, Int.reduceLE, Int.reduceBEq, Int.reduceAdd, Int.reduceSub, Int.reduceToNat, hcs.2, h, h2, Bool.false_eq_true])
theorem alike_place (x y : Listener) : alike x y = decide (placeOf x = placeOf y) := by
  rw [Bool.eq_iff_iff]; simp [alike, placeOf, and_assoc]
theorem seen_none (x : Listener) : ∀ (pre : List Listener) (t : Nat) (k : Int), 0 ≤ k → (findE (placeOf x) (pre.map fun y => (placeOf y, (1 : Int))) t = none ↔ find x pre k < 0)
  | [], t, k, hk => by simp [findE, find]
  | y :: pre, t, k, hk => by
    simp only [List.map_cons, findE, find, alike_place]
    by_cases h : placeOf x = placeOf y
    · simp [h]; omega
    · simp [h, seen_none x pre (t + 1) (k + 1) (by omega)]
theorem seen_some (x : Listener) : ∀ (pre : List Listener) (t : Nat) (v : Int) (i : Nat), findE (placeOf x) (pre.map fun y => (placeOf y, (1 : Int))) t = some (v, i) → v = 1
  | [], t, v, i, h => by simp [findE] at h
  | y :: pre, t, v, i, h => by
    simp only [List.map_cons, findE] at h
    split at h
    · cases h; rfl
    · exact seen_some x pre (t + 1) v i h
def eI (n : Int) : V := .d (.int .i64 n)
theorem okL_right (last nx : Int) (pre : List Listener) (x : Listener) : okL last nx pre x = (right x last nx && decide (find x pre 0 < 0)) := by
  unfold okL right
  cases decide (last < x.id) <;> cases decide (x.id < nx) <;> cases decide (find x pre 0 < 0) <;> simp
theorem chk_loop (l : Listeners) (nx : Int) (b : Nat) (hb : 0 < b) (hlen : l.list.l.length ≤ 1024) (s : St) (h1 : s.r 1 = .ptr 0 0 0) (h3 : s.r 3 = .d (.int .i64 nx)) (h4 : s.r 4 = .map b) (h5 : s.r 5 = .d (.int .i64 0)) (h25 : s.r 25 = .d (.list l.list.n (l.list.l.map eListener))) (h26 : s.r 26 = .d (.int .i64 l.list.l.length)) (h27 : s.r 27 = .d (.int .i64 0))
    (hm : s.h.get b = some (.map [] 0)) (hn : b + 1 ≤ s.h.next) :
    Wp prog (.loop c21B0) s (fun e s' => (e = .exit 0 ∧ chk nx [] 0 l.list.l = true) ∨ (e = .ret ∧ chk nx [] 0 l.list.l = false ∧ s'.r 2 = .d (.int .i64 2))) := by
  refine Wp.rounds l.list.l.length (fun s0 k s => ∃ last, s.r 27 = .d (.int .i64 k) ∧ s.r 5 = .d (.int .i64 last) ∧ s.h.get b = some (.map (ents elisten_place eI ((l.list.l.take k).map fun y => (placeOf y, (1 : Int))) 0) k) ∧ chk nx (l.list.l.take k) last (l.list.l.drop k) = chk nx [] 0 l.list.l) ?_ ?_ ?_
  · exact ⟨0, by simpa using h27, h5, by simpa [ents] using hm, by simp⟩
  · rintro k s hk hK ⟨last, h27, h5, hm, hF⟩
    have r3 := (hK.reg 3 rfl).trans h3
    have r4 := (hK.reg 4 rfl).trans h4
    have r25 := (hK.reg 25 rfl).trans h25
    have r26 := (hK.reg 26 rfl).trans h26
    have hn := Nat.le_trans hn hK.next
    have hw := wrap_nat (show k < 2 ^ 62 by omega)
    rw [drop_cons hk, chk] at hF
    clear hK
    have hc0 : k = ((l.list.l.take k).map fun y => (placeOf y, (1 : Int))).length := by simp; omega
    have hbb : b < b + 1 := Nat.lt_succ_self b
    have hsn := seen_none l.list.l[k] (l.list.l.take k) 0 0 (Int.le_refl 0)
    have hss := seen_some l.list.l[k] (l.list.l.take k) 0
    have hw1 : IntKind.i64.wrap 1 = 1 := by decide
    cases hfe : findE (placeOf l.list.l[k]) ((l.list.l.take k).map fun y => (placeOf y, (1 : Int))) 0 with
    | none =>
      have hok := okL_right last nx (l.list.l.take k) l.list.l[k]
      rw [decide_eq_true (hsn.1 hfe), Bool.and_true] at hok
      have hes : ∀ h : Heap, estoreM k (.d (.int .i64 1)) b h (some (.map (ents elisten_place eI (((l.list.l.take k).map fun y => (placeOf y, (1 : Int))) ++ [(placeOf l.list.l[k], 0)]) 0) (k + 1))) =
          some (.undef, h.put b (.map (ents elisten_place eI (((l.list.l.take k).map fun y => (placeOf y, (1 : Int))) ++ [(placeOf l.list.l[k], 1)]) 0) (k + 1))) := fun h => by
        have hf2 := findE_new (a := (0 : Int)) hfe
        rw [Nat.zero_add, ← hc0] at hf2
        have := estoreM_ents (h := h) (e := elisten_place) (f := eI) (b := b) (c := k + 1) (a := (1 : Int)) hf2
        rw [setE_new hfe] at this
        exact this
      delta c21B0
      simp only [go_sem, regs0, ↓reduceIte, Nat.reduceAdd, Nat.reduceEqDiff, Nat.reduceBEq, Nat.reduceBNe, Nat.reduceLeDiff, Nat.reduceLT, reduceCtorEq, decide_true, decide_false, List.length_map, Int.reduceLT, Int.reduceLE, Int.reduceBEq, Int.reduceAdd, Int.reduceSub, Int.reduceToNat, r3, r4, r25, r26, h27, h5, hm, nat_lt, hk, nat_pos, Int.toNat_natCast, map_get hk, low_ne' hn, hbb, placeOf_spec, right_spec]
      repeat' (first | (refine WGuard_splitN (fun hc => ?_) (fun hc => ?_) <;> (try simp only [go_sem, regs0, ↓reduceIte, Nat.reduceAdd, Nat.reduceEqDiff, Nat.reduceBEq, Nat.reduceBNe, Nat.reduceLeDiff, Nat.reduceLT, reduceCtorEq, decide_true, decide_false, List.length_map, Int.reduceLT, Int.reduceLE, Int.reduceBEq, Int.reduceAdd, Int.reduceSub, Int.reduceToNat, hc, r3, r4, r25, r26, h27, h5, hm, nat_lt, hk, nat_pos, Int.toNat_natCast, map_get hk, low_ne' hn, hbb, placeOf_spec, right_spec, lookM_ents (f := eI) elisten_place_key, hfe, hw1, entryM_none elisten_place_key (f := eI) (z := (0 : Int)) (zd := .int .i64 0) rfl hfe hc0, hes])) | (refine WBr_splitN (fun hc => ?_) (fun hc => ?_) <;> (try simp only [go_sem, regs0, ↓reduceIte, Nat.reduceAdd, Nat.reduceEqDiff, Nat.reduceBEq, Nat.reduceBNe, Nat.reduceLeDiff, Nat.reduceLT, reduceCtorEq, decide_true, decide_false, List.length_map, Int.reduceLT, Int.reduceLE, Int.reduceBEq, Int.reduceAdd, Int.reduceSub, Int.reduceToNat, hc, r3, r4, r25, r26, h27, h5, hm, nat_lt, hk, nat_pos, Int.toNat_natCast, map_get hk, low_ne' hn, hbb, placeOf_spec, right_spec, lookM_ents (f := eI) elisten_place_key, hfe, hw1, entryM_none elisten_place_key (f := eI) (z := (0 : Int)) (zd := .int .i64 0) rfl hfe hc0, hes])) | (refine WGuard_split (fun hc => ?_) (fun hc => ?_) <;> (try simp only [go_sem, regs0, ↓reduceIte, Nat.reduceAdd, Nat.reduceEqDiff, Nat.reduceBEq, Nat.reduceBNe, Nat.reduceLeDiff, Nat.reduceLT, reduceCtorEq, decide_true, decide_false, List.length_map, Int.reduceLT, Int.reduceLE, Int.reduceBEq, Int.reduceAdd, Int.reduceSub, Int.reduceToNat, hc, r3, r4, r25, r26, h27, h5, hm, nat_lt, hk, nat_pos, Int.toNat_natCast, map_get hk, low_ne' hn, hbb, placeOf_spec, right_spec, lookM_ents (f := eI) elisten_place_key, hfe, hw1, entryM_none elisten_place_key (f := eI) (z := (0 : Int)) (zd := .int .i64 0) rfl hfe hc0, hes])) | (refine WBr_split (fun hc => ?_) (fun hc => ?_) <;> (try simp only [go_sem, regs0, ↓reduceIte, Nat.reduceAdd, Nat.reduceEqDiff, Nat.reduceBEq, Nat.reduceBNe, Nat.reduceLeDiff, Nat.reduceLT, reduceCtorEq, decide_true, decide_false, List.length_map, Int.reduceLT, Int.reduceLE, Int.reduceBEq, Int.reduceAdd, Int.reduceSub, Int.reduceToNat, hc, r3, r4, r25, r26, h27, h5, hm, nat_lt, hk, nat_pos, Int.toNat_natCast, map_get hk, low_ne' hn, hbb, placeOf_spec, right_spec, lookM_ents (f := eI) elisten_place_key, hfe, hw1, entryM_none elisten_place_key (f := eI) (z := (0 : Int)) (zd := .int .i64 0) rfl hfe hc0, hes])))
      all_goals rw [hok, hc] at hF
      · refine ⟨_, by rw [hw], rfl, ?_, ?_⟩
        · rw [take_next hk, List.map_append]; rfl
        · rw [take_next hk]; simpa using hF
      · simp only [Bool.false_and] at hF
        simp [← hF]
    | some p =>
      obtain ⟨v, i⟩ := p
      have hv := hss v i hfe
      subst hv
      have hnn : ¬ find l.list.l[k] (l.list.l.take k) 0 < 0 := fun h => by rw [hsn.2 h] at hfe; cases hfe
      have hok := okL_right last nx (l.list.l.take k) l.list.l[k]
      rw [decide_eq_false hnn, Bool.and_false] at hok
      rw [hok, Bool.false_and] at hF
      have he1 : eI 1 = .d (.int .i64 1) := rfl
      delta c21B0
      simp only [go_sem, regs0, ↓reduceIte, Nat.reduceAdd, Nat.reduceEqDiff, Nat.reduceBEq, Nat.reduceBNe, Nat.reduceLeDiff, Nat.reduceLT, reduceCtorEq, decide_true, decide_false, List.length_map, Int.reduceLT, Int.reduceLE, Int.reduceBEq, Int.reduceAdd, Int.reduceSub, Int.reduceToNat, r3, r4, r25, r26, h27, h5, hm, nat_lt, hk, nat_pos, Int.toNat_natCast, map_get hk, low_ne' hn, hbb, placeOf_spec, right_spec]
      repeat' (first | (refine WGuard_splitN (fun hc => ?_) (fun hc => ?_) <;> (try simp only [go_sem, regs0, ↓reduceIte, Nat.reduceAdd, Nat.reduceEqDiff, Nat.reduceBEq, Nat.reduceBNe, Nat.reduceLeDiff, Nat.reduceLT, reduceCtorEq, decide_true, decide_false, List.length_map, Int.reduceLT, Int.reduceLE, Int.reduceBEq, Int.reduceAdd, Int.reduceSub, Int.reduceToNat, hc, r3, r4, r25, r26, h27, h5, hm, nat_lt, hk, nat_pos, Int.toNat_natCast, map_get hk, low_ne' hn, hbb, placeOf_spec, right_spec, lookM_ents (f := eI) elisten_place_key, hfe, hw1, he1])) | (refine WBr_splitN (fun hc => ?_) (fun hc => ?_) <;> (try simp only [go_sem, regs0, ↓reduceIte, Nat.reduceAdd, Nat.reduceEqDiff, Nat.reduceBEq, Nat.reduceBNe, Nat.reduceLeDiff, Nat.reduceLT, reduceCtorEq, decide_true, decide_false, List.length_map, Int.reduceLT, Int.reduceLE, Int.reduceBEq, Int.reduceAdd, Int.reduceSub, Int.reduceToNat, hc, r3, r4, r25, r26, h27, h5, hm, nat_lt, hk, nat_pos, Int.toNat_natCast, map_get hk, low_ne' hn, hbb, placeOf_spec, right_spec, lookM_ents (f := eI) elisten_place_key, hfe, hw1, he1])) | (refine WGuard_split (fun hc => ?_) (fun hc => ?_) <;> (try simp only [go_sem, regs0, ↓reduceIte, Nat.reduceAdd, Nat.reduceEqDiff, Nat.reduceBEq, Nat.reduceBNe, Nat.reduceLeDiff, Nat.reduceLT, reduceCtorEq, decide_true, decide_false, List.length_map, Int.reduceLT, Int.reduceLE, Int.reduceBEq, Int.reduceAdd, Int.reduceSub, Int.reduceToNat, hc, r3, r4, r25, r26, h27, h5, hm, nat_lt, hk, nat_pos, Int.toNat_natCast, map_get hk, low_ne' hn, hbb, placeOf_spec, right_spec, lookM_ents (f := eI) elisten_place_key, hfe, hw1, he1])) | (refine WBr_split (fun hc => ?_) (fun hc => ?_) <;> (try simp only [go_sem, regs0, ↓reduceIte, Nat.reduceAdd, Nat.reduceEqDiff, Nat.reduceBEq, Nat.reduceBNe, Nat.reduceLeDiff, Nat.reduceLT, reduceCtorEq, decide_true, decide_false, List.length_map, Int.reduceLT, Int.reduceLE, Int.reduceBEq, Int.reduceAdd, Int.reduceSub, Int.reduceToNat, hc, r3, r4, r25, r26, h27, h5, hm, nat_lt, hk, nat_pos, Int.toNat_natCast, map_get hk, low_ne' hn, hbb, placeOf_spec, right_spec, lookM_ents (f := eI) elisten_place_key, hfe, hw1, he1])))
      all_goals simp [← hF]
  · rintro s hK ⟨last, h27, h5, hm, hF⟩
    have r26 := (hK.reg 26 rfl).trans h26
    delta c21B0
    simp only [go_sem, regs0, ↓reduceIte, Nat.reduceAdd, Nat.reduceEqDiff, Nat.reduceBEq, Nat.reduceBNe, Nat.reduceLeDiff, Nat.reduceLT, reduceCtorEq, decide_true, decide_false, List.length_map, Int.reduceLT, Int.reduceLE, Int.reduceBEq, Int.reduceAdd, Int.reduceSub, Int.reduceToNat, r26, h27, nat_lt, Nat.lt_irrefl]
    simpa [chk] using hF
theorem check_next (l : Listeners) : check l = if 1024 < l.list.l.length ∨ next l < 1 ∨ 1099511627776 < next l then 2 else if chk (next l) [] 0 l.list.l then 0 else 2 := by
  by_cases h : l.list.l.length = 0 ∧ l.next = 0
  · have hn : next l = 1 := by simp [next, h.1, h.2]
    have hl : l.list.l = [] := List.eq_nil_of_length_eq_zero h.1
    simp [check, hn, hl, h.2, chk]
  · have hn : next l = l.next := by
      unfold next
      split
      · rename_i h1; simp at h1; exact absurd ⟨by simp [h1.2], h1.1⟩ h
      · rfl
    rw [hn, check, if_neg h]
theorem check_spec (l : Listeners) : pc prog 21 [eListeners l] = some (.int .i64 (check l)) := by
  refine pc_of (fn := c21) rfl rfl ?_
  rw [check_next]
  delta c21
  simp only [go_sem, regs0, ↓reduceIte, Nat.reduceAdd, Nat.reduceEqDiff, Nat.reduceBEq, Nat.reduceBNe, Nat.reduceLeDiff, Nat.reduceLT, reduceCtorEq, decide_true, decide_false, List.length_map, Int.reduceLT, Int.reduceLE, Int.reduceBEq, Int.reduceAdd, Int.reduceSub, Int.reduceToNat, next_spec]
  repeat' (first | (refine WGuard_splitN (fun hc => ?_) (fun hc => ?_) <;> (try simp only [go_sem, regs0, ↓reduceIte, Nat.reduceAdd, Nat.reduceEqDiff, Nat.reduceBEq, Nat.reduceBNe, Nat.reduceLeDiff, Nat.reduceLT, reduceCtorEq, decide_true, decide_false, List.length_map, Int.reduceLT, Int.reduceLE, Int.reduceBEq, Int.reduceAdd, Int.reduceSub, Int.reduceToNat, hc, next_spec])) | (refine WBr_splitN (fun hc => ?_) (fun hc => ?_) <;> (try simp only [go_sem, regs0, ↓reduceIte, Nat.reduceAdd, Nat.reduceEqDiff, Nat.reduceBEq, Nat.reduceBNe, Nat.reduceLeDiff, Nat.reduceLT, reduceCtorEq, decide_true, decide_false, List.length_map, Int.reduceLT, Int.reduceLE, Int.reduceBEq, Int.reduceAdd, Int.reduceSub, Int.reduceToNat, hc, next_spec])) | (refine WGuard_split (fun hc => ?_) (fun hc => ?_) <;> (try simp only [go_sem, regs0, ↓reduceIte, Nat.reduceAdd, Nat.reduceEqDiff, Nat.reduceBEq, Nat.reduceBNe, Nat.reduceLeDiff, Nat.reduceLT, reduceCtorEq, decide_true, decide_false, List.length_map, Int.reduceLT, Int.reduceLE, Int.reduceBEq, Int.reduceAdd, Int.reduceSub, Int.reduceToNat, hc, next_spec])) | (refine WBr_split (fun hc => ?_) (fun hc => ?_) <;> (try simp only [go_sem, regs0, ↓reduceIte, Nat.reduceAdd, Nat.reduceEqDiff, Nat.reduceBEq, Nat.reduceBNe, Nat.reduceLeDiff, Nat.reduceLT, reduceCtorEq, decide_true, decide_false, List.length_map, Int.reduceLT, Int.reduceLE, Int.reduceBEq, Int.reduceAdd, Int.reduceSub, Int.reduceToNat, hc, next_spec])))
  all_goals first
    | (simp_all; done)
    | (simp_all; intros; omega)
    | (have hcs : ¬ (1024 < l.list.l.length ∨ next l < 1 ∨ 1099511627776 < next l) := by simp_all <;> omega
       refine (chk_loop l (next l) 17 (by decide) (by omega) _ ?_ ?_ ?_ ?_ ?_ ?_ ?_ ?_ ?_).mono fun e s' hq => ?_
       all_goals try (simp only [go_sem, regs0, ↓reduceIte, Nat.reduceAdd, Nat.reduceEqDiff, Nat.reduceBEq, Nat.reduceBNe, Nat.reduceLeDiff, Nat.reduceLT, reduceCtorEq, decide_true, decide_false, List.length_map, Int.reduceLT, Int.reduceLE, Int.reduceBEq, Int.reduceAdd, Int.reduceSub, Int.reduceToNat]; done)
       rcases hq with ⟨rfl, h⟩ | ⟨rfl, h, h2⟩
       · simp only [go_sem, regs0, ↓reduceIte, Nat.reduceAdd, Nat.reduceEqDiff, Nat.reduceBEq, Nat.reduceBNe, Nat.reduceLeDiff, Nat.reduceLT, reduceCtorEq, decide_true, decide_false, List.length_map, Int.reduceLT, Int.reduceLE, Int.reduceBEq, Int.reduceAdd, Int.reduceSub, Int.reduceToNat, if_neg hcs, h]
       · simp only [go_sem, regs0, ↓reduceIte, Nat.reduceAdd, Nat.reduceEqDiff, Nat.reduceBEq, Nat.reduceBNe, Nat.reduceLeDiff, Nat.reduceLT, reduceCtorEq, decide_true, decide_false, List.length_map, Int.reduceLT, Int.reduceLE, Int.reduceBEq, Int.reduceAdd, Int.reduceSub, Int.reduceToNat, if_neg hcs, h, h2, Bool.false_eq_true])
end Go.Proofs.Ytnijbejobbajfaa.D
