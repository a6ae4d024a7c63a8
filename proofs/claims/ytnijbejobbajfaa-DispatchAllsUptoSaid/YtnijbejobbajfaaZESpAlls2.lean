/- Shaken copy of a longer text: what one law needs. Its conditions: none. -/
import Derived.Test.YtnijbejobbajfaaZESpAlls
import Derived.Test.YtnijbejobbajfaaZEDecA
set_option linter.unusedSimpArgs false
set_option linter.unusedVariables false
set_option linter.unusedSectionVars false
set_option linter.unnecessarySimpa false
namespace Go.Proofs.Ytnijbejobbajfaa.E
open Go.AI
def actD (r : Run) (d : Int) : Run := (actP r.path.n r.due.n r d).1
def goneD (l : Listeners) (i : Int) : Listeners := (expire l i).1
def doneD (es : List Effects) (cb : Int) (l : Listeners) (r : Run) : Listeners × Run := match es.findIdx? (fun e => e.callback == cb) with
  | none => (l, r)
  | some k => ((es[k]!).gone.l.foldl goneD l, (es[k]!).does.l.foldl actD r)
theorem act_ok {r : Run} (o : OkR r) (d : Int) : OkR (actD r d) := by
  unfold actD actP
  split
  · exact okR_zero
  split
  · exact okR_zero
  · exact ⟨o.p, o.d, o.pl, o.dl⟩
theorem act_mu (r : Run) (d : Int) : mu (actD r d) ≤ mu r := by
  have hz : mu .zero = 0 := rfl
  unfold actD actP
  split
  · show mu Run.zero ≤ _; rw [hz]; exact Nat.zero_le _
  split
  · show mu Run.zero ≤ _; rw [hz]; exact Nat.zero_le _
  · exact Nat.le_refl _
theorem acts_ok : ∀ (ds : List Int) {r : Run}, OkR r → OkR (ds.foldl actD r) ∧ mu (ds.foldl actD r) ≤ mu r
  | [], _, o => ⟨o, Nat.le_refl _⟩
  | d :: ds, r, o => by
    have := acts_ok ds (act_ok o d)
    exact ⟨this.1, Nat.le_trans this.2 (act_mu r d)⟩
theorem gone_ok : ∀ (gs : List Int) {l : Listeners}, OkL l → OkL (gs.foldl goneD l)
  | [], _, o => o
  | g :: gs, _, o => gone_ok gs (okL_expire o g)
theorem done_ok (es : List Effects) (cb : Int) {l : Listeners} {r : Run} (ol : OkL l) (o : OkR r) : OkL (doneD es cb l r).1 ∧ OkR (doneD es cb l r).2 ∧ mu (doneD es cb l r).2 ≤ mu r := by
  unfold doneD
  split
  · exact ⟨ol, o, Nat.le_refl _⟩
  · exact ⟨gone_ok _ ol, (acts_ok _ o).1, (acts_ok _ o).2⟩
theorem act_near {a b : Run} (h : Near a b) (n m n' m' : Bool) (d : Int) : Near (actP n m a d).1 (actP n' m' b d).1 := by
  have hr := right_near h
  obtain ⟨h1, h2, h3, h4, h5⟩ := h
  unfold actP
  rw [hr]
  by_cases hq : ¬ rightP b = true
  · simp only [if_pos hq]; exact .refl
  · simp only [if_neg hq]
    by_cases hd : 4 ≤ d
    · simp only [if_pos hd]; exact .refl
    · simp only [if_neg hd]
      exact ⟨by simp only [h1], h2, h3, h4, h5⟩
def actF (r : Run) (d : Int) : Run := (actP false false r d).1
theorem acts_near : ∀ (ds : List Int) {a b : Run}, Near a b → Near (ds.foldl actD a) (ds.foldl actF b)
  | [], _, _, h => h
  | d :: ds, _, _, h => acts_near ds (act_near h _ _ _ _ d)
theorem gone_sim : ∀ (gs : List Int) {a b : Listeners}, SimL a b → SimL (gs.foldl goneD a) (gs.foldl goneD b)
  | [], _, _, h => h
  | g :: gs, a, b, h => by
    simp only [List.foldl_cons]
    rw [show goneD a g = goneD b g by simp only [goneD, expire_sim h]]
    exact .refl
def goD (es : List Effects) : Nat → Listeners → Run → List Call → List Call × Listeners × Run
  | 0, l, r, cs => (cs, l, r)
  | n + 1, l, r, cs => if (nextD l r).2.2.2.1 = true then goD es n (doneD es (nextD l r).2.2.1.callback (nextD l r).2.1 (nextD l r).1).1 (doneD es (nextD l r).2.2.1.callback (nextD l r).2.1 (nextD l r).1).2 (cs ++ [(nextD l r).2.2.1]) else (cs, (nextD l r).2.1, (nextD l r).1)
theorem cb_loop (a4 : Sl Effects) (x0 : Listeners × Run × List Call) (w : Run × Listeners × Call × Bool × Int) (hl : a4.l.length ≤ 2 ^ 31) : loopV (L50_1_step a4 x0 w) 0 = some (match a4.l.findIdx? (fun e : Effects => e.callback == w.2.2.1.callback) with | some k => Sum.inr (k : Int) | none => Sum.inl ()) := by
  refine find_loop (fun e : Effects => e.callback == w.2.2.1.callback) (fun k => Sum.inr (k : Int)) (Sum.inl ()) ?_ ?_
  · intro k hk
    have hw := wrap_nat (show k < 2 ^ 62 by omega)
    simp only [L50_1_step, rd_nat hk, Option.bind_some, hw]
    rw [if_pos (by simp; omega)]
    split <;> rfl
  · simp only [L50_1_step]
    rw [if_neg (by simp)]
theorem act_loop (a4 : Sl Effects) (x0 : Listeners × Run × List Call) (w : Run × Listeners × Call × Bool × Int) (q : Int) (e : Effects) (hl : e.does.l.length ≤ 2 ^ 31) {r : Run} (o : OkR r) : loopV (L50_2_step a4 x0 w q e) (r, 0) = some (e.does.l.foldl actD r) := by
  refine (fold_loop (step := L50_2_step a4 x0 w q e) actD OkR ?_ ?_ r o).1
  · intro k hk x hx
    have hw := wrap_nat (show k < 2 ^ 62 by omega)
    refine ⟨?_, act_ok hx _⟩
    simp only [L50_2_step, rd_nat hk, Option.bind_some, hw, act_prg x _ hx.p hx.d hx.pl hx.dl, dec_t2]
    rw [if_pos (by simp; omega)]
    rfl
  · intro x hx
    simp only [L50_2_step]
    rw [if_neg (by simp)]
theorem gone_loop (a4 : Sl Effects) (x0 : Listeners × Run × List Call) (w : Run × Listeners × Call × Bool × Int) (e : Effects) (r : Run) (hl : e.gone.l.length ≤ 2 ^ 31) (l : Listeners) : loopV (L50_3_step a4 x0 w e r) (l, 0) = some (e.gone.l.foldl goneD l) := by
  refine (fold_loop (step := L50_3_step a4 x0 w e r) goneD (fun _ => True) ?_ ?_ l trivial).1
  · intro k hk x hx
    have hw := wrap_nat (show k < 2 ^ 62 by omega)
    refine ⟨?_, trivial⟩
    simp only [L50_3_step, rd_nat hk, Option.bind_some, hw, expire_spec, dec_t3]
    rw [if_pos (by simp; omega)]
    rfl
  · intro x hx
    simp only [L50_3_step]
    rw [if_neg (by simp)]
structure OkE (a4 : Sl Effects) : Prop where
  n : a4.l.length ≤ 2 ^ 31
  does : ∀ e ∈ a4.l, e.does.l.length ≤ 2 ^ 31
  gone : ∀ e ∈ a4.l, e.gone.l.length ≤ 2 ^ 31
  nat : ∀ e ∈ a4.l, ∀ d ∈ e.does.l, 0 ≤ d
theorem go_prg (a4 : Sl Effects) (oe : OkE a4) : ∀ (n : Nat) (l : Listeners) (r : Run) (cs : List Call), OkL l → OkR r → mu r < n → cs.length + mu r ≤ 2 ^ 24 → loopV (L50_0_step a4) (l, r, cs) = some (goD a4.l n l r cs) := by
  intro n
  induction n with
  | zero => intro l r cs _ _ h _; omega
  | succ n ih =>
    intro l r cs ol o hm hc
    obtain ⟨o1, o2, o3⟩ := next_ok ol o
    have hp := prg_next ol o
    rw [goD]
    generalize nextD l r = w at *
    by_cases hb : w.2.2.2.1 = true
    · rw [if_pos hb]
      obtain ⟨-, -, hlt⟩ := o3 hb
      obtain ⟨d1, d2, d3⟩ := done_ok a4.l w.2.2.1.callback o2 o1
      have hroom : (cs.length + 1) * 24 ≤ AI.roomBytes := room_le (n := cs.length + 1) (bytes := 24) (by omega) (by decide)
      have hs : L50_0_step a4 (l, r, cs) = some (.inl ((doneD a4.l w.2.2.1.callback w.2.1 w.1).1, (doneD a4.l w.2.2.1.callback w.2.1 w.1).2, cs ++ [w.2.2.1])) := by
        simp only [L50_0_step, hp, eT5, dec_t5, Option.bind_some]
        rw [if_neg (by simp [hb]), if_pos hroom]
        simp only [cb_loop a4 _ _ oe.n, Option.bind_some, doneD]
        rcases hf : a4.l.findIdx? (fun e => e.callback == w.2.2.1.callback) with _ | k
        · simp only [hf]
        · have hk : k < a4.l.length := by
            rw [List.findIdx?_eq_some_iff_getElem] at hf
            exact hf.1
          have hget : a4.l[k]! = a4.l[k] := by simp [hk]
          have hmem := List.getElem_mem hk
          simp only [hf, rd_nat hk, Option.bind_some, act_loop a4 _ _ _ _ (oe.does _ hmem) o1, gone_loop a4 _ _ _ _ (oe.gone _ hmem), hget]
          rw [if_neg (by simp)]
      rw [loopV_next hs]
      exact ih _ _ _ d1 d2 (by omega) (by simp only [List.length_append, List.length_cons, List.length_nil]; omega)
    · rw [if_neg hb]
      refine loopV_done ?_
      simp only [L50_0_step, hp, eT5, dec_t5, Option.bind_some]
      rw [if_pos (by simpa using hb)]
theorem act_loop_ref (a0 : Listeners) (a3 : Sl Effects) (oe : OkE a3) (k : Nat) (hk : k < a3.l.length) {r : Run} (o1 : r.path.l.length ≤ 2 ^ 31) (o2 : r.due.l.length ≤ 2 ^ 31) : loopV (L86_1_step a0 a3 (k : Int)) (r, 0) = some ((a3.l[k]).does.l.foldl actF r) := by
  have hm := List.getElem_mem hk
  refine (fold_loop (step := L86_1_step a0 a3 (k : Int)) actF (fun r => r.path.l.length ≤ 2 ^ 31 ∧ r.due.l.length ≤ 2 ^ 31) ?_ ?_ r ⟨o1, o2⟩).1
  · intro j hj x hx
    have hw := wrap_nat (show j < 2 ^ 62 by have := oe.does _ hm; omega)
    refine ⟨?_, ?_⟩
    · simp only [L86_1_step, rd_nat hk, rd_nat hj, Option.bind_some, hw, act_ref x _ (oe.nat _ hm _ (List.getElem_mem hj)) hx.1 hx.2, dec_t2]
      rw [if_pos (by simp; omega)]
      rfl
    · have := act_len false false x ((a3.l[k]).does.l[j])
      exact ⟨Nat.le_trans this.1 hx.1, Nat.le_trans this.2 hx.2⟩
  · intro x hx
    simp only [L86_1_step, rd_nat hk, Option.bind_some]
    rw [if_neg (by simp)]
theorem gone_loop_ref (a3 : Sl Effects) (oe : OkE a3) (k : Nat) (hk : k < a3.l.length) (r : Run) (l : Listeners) : loopV (L86_2_step a3 (k : Int) r) (l, 0) = some ((a3.l[k]).gone.l.foldl goneD l) := by
  have hm := List.getElem_mem hk
  refine (fold_loop (step := L86_2_step a3 (k : Int) r) goneD (fun _ => True) ?_ ?_ l trivial).1
  · intro j hj x hx
    have hw := wrap_nat (show j < 2 ^ 62 by have := oe.gone _ hm; omega)
    refine ⟨?_, trivial⟩
    simp only [L86_2_step, rd_nat hk, rd_nat hj, Option.bind_some, hw, expire_ref, dec_t3]
    rw [if_pos (by simp; omega)]
    rfl
  · intro x hx
    simp only [L86_2_step, rd_nat hk, Option.bind_some]
    rw [if_neg (by simp)]
theorem done_ref {l l' : Listeners} {r r' : Run} (hs : SimL l l') (hn : Near r r') (o1 : r.path.l.length ≤ 2 ^ 31) (o2 : r.due.l.length ≤ 2 ^ 31) (cb : Int) (a3 : Sl Effects) (oe : OkE a3) : ∃ o, pc prog 86 [eListeners l', eRun r', .int .i64 cb, .list a3.n (a3.l.map eEffects)] = some ((eT2 eListeners eRun) o) ∧ SimL (doneD a3.l cb l r).1 o.1 ∧ Near (doneD a3.l cb l r).2 o.2 := by
  have o1' : r'.path.l.length ≤ 2 ^ 31 := by rw [← hn.2.1]; exact o1
  have o2' : r'.due.l.length ≤ 2 ^ 31 := by rw [← hn.2.2.2.1]; exact o2
  have hlp : loopV (L86_0_step l' r' cb a3) 0 = some (match a3.l.findIdx? (fun e : Effects => e.callback == cb) with | some k => Sum.inr ((a3.l[k]!).gone.l.foldl goneD l', (a3.l[k]!).does.l.foldl actF r') | none => Sum.inl ()) := by
    refine find_loop (fun e : Effects => e.callback == cb) (fun k => Sum.inr ((a3.l[k]!).gone.l.foldl goneD l', (a3.l[k]!).does.l.foldl actF r')) (Sum.inl ()) ?_ ?_
    · intro k hk
      have hw := wrap_nat (show k < 2 ^ 62 by have := oe.n; omega)
      have hget : a3.l[k]! = a3.l[k] := by simp [hk]
      simp only [L86_0_step, rd_nat hk, Option.bind_some, hw, act_loop_ref l' a3 oe k hk o1' o2', gone_loop_ref a3 oe k hk, hget]
      rw [if_pos (by simp; omega)]
      rcases hq : (a3.l[k]).callback == cb with _ | _
      · rw [if_pos (by simp), if_neg (by simp)]
      · rw [if_neg (by simp), if_pos rfl]
    · simp only [L86_0_step]
      rw [if_neg (by simp)]
  unfold doneD
  rcases hf : a3.l.findIdx? (fun e : Effects => e.callback == cb) with _ | k
  · refine ⟨(l', r'), ok86 l' r' cb a3 _ ?_, hs, hn⟩
    simp only [P86, hlp, hf, Option.bind_some]
  · refine ⟨_, ok86 l' r' cb a3 ((a3.l[k]!).gone.l.foldl goneD l', (a3.l[k]!).does.l.foldl actF r') ?_, gone_sim _ hs, acts_near _ hn⟩
    simp only [P86, hlp, hf, Option.bind_some]
theorem go_ref (a2 : Event) (a4 : Sl Effects) (oe : OkE a4) : ∀ (n : Nat) (l l' : Listeners) (r r' : Run) (cs : List Call), SimL l l' → Near r r' → OkL l → OkR r → mu r < n → cs.length + mu r ≤ 2 ^ 24 → ∃ o, loopV (L51_0_step a2 a4) (l', r', cs) = some o ∧ (goD a4.l n l r cs).1 = o.1 ∧ SimL (goD a4.l n l r cs).2.1 o.2.1 ∧ Near (goD a4.l n l r cs).2.2 o.2.2 := by
  intro n
  induction n with
  | zero => intro l l' r r' cs _ _ _ _ h _; omega
  | succ n ih =>
    intro l l' r r' cs hs hn ol o hm hc
    obtain ⟨o1, o2, o3⟩ := next_ok ol o
    obtain ⟨w', hp, n1, n2, n3⟩ := ref_next hs hn ol.len o.pl o.dl
    rw [goD]
    generalize nextD l r = w at *
    by_cases hb : w.2.2.2.1 = true
    · rw [if_pos hb]
      obtain ⟨-, -, hlt⟩ := o3 hb
      obtain ⟨d1, d2, d3⟩ := done_ok a4.l w.2.2.1.callback o2 o1
      obtain ⟨q, q1, q2, q3⟩ := done_ref n2 n1 o1.pl o1.dl w.2.2.1.callback a4 oe
      have hroom : (cs.length + 1) * 24 ≤ AI.roomBytes := room_le (n := cs.length + 1) (bytes := 24) (by omega) (by decide)
      have hs : L51_0_step a2 a4 (l', r', cs) = some (.inl (q.1, q.2, cs ++ [w.2.2.1])) := by
        simp only [L51_0_step, hp, eT5, dec_t5, Option.bind_some]
        rw [← n3]
        rw [if_neg (by simp [hb]), if_pos hroom]
        simp only [q1, eT2, dec_t2, Option.bind_some]
      rw [loopV_next hs]
      exact ih _ _ _ _ _ q2 q3 d1 d2 (by omega) (by simp only [List.length_append, List.length_cons, List.length_nil]; omega)
    · rw [if_neg hb]
      refine ⟨_, loopV_done (r := (cs, w'.2.1, w'.1)) ?_, rfl, n2, n1⟩
      simp only [L51_0_step, hp, eT5, dec_t5, Option.bind_some]
      rw [← n3]
      rw [if_pos (by simpa using hb)]
def bigE (e : Effects) : Bool := decide (4096 < e.does.l.length) || decide (4096 < e.gone.l.length)
def wrongE (e : Effects) : Bool := e.does.l.any fun d => decide (4 ≤ d)
def wrongP (es : List Effects) : Int := if 4096 < es.length then 3 else if es.any bigE = true then 3 else if es.any wrongE = true then 23 else 0
theorem wrong_prg (a0 : Sl Effects) (oe : OkE a0) : pc prog 82 [.list a0.n (a0.l.map eEffects)] = some (.int .i64 (wrongP a0.l)) := by
  refine ok82 a0 _ ?_
  have h0 : loopV (L82_0_step a0) 0 = some (if a0.l.any bigE = true then Sum.inr () else Sum.inl ()) := by
    refine any_loop bigE (Sum.inr ()) (Sum.inl ()) ?_ ?_
    · intro k hk
      have hw := wrap_nat (show k < 2 ^ 62 by have := oe.n; omega)
      simp only [L82_0_step, rd_nat hk, Option.bind_some, hw]
      rw [if_pos (by simp; omega)]
      have e1 : decide ((4096 : Int) < ((a0.l[k]).does.l.length : Int)) = decide (4096 < (a0.l[k]).does.l.length) := by rw [decide_eq_decide]; omega
      have e2 : decide ((4096 : Int) < ((a0.l[k]).gone.l.length : Int)) = decide (4096 < (a0.l[k]).gone.l.length) := by rw [decide_eq_decide]; omega
      by_cases h1 : 4096 < (a0.l[k]).does.l.length <;> by_cases h2 : 4096 < (a0.l[k]).gone.l.length <;> simp only [bigE, e1, e2, h1, h2, decide_true, decide_false] <;> rfl
    · simp only [L82_0_step]
      rw [if_neg (by simp)]
  have h2 : ∀ e ∈ a0.l, loopV (L82_2_step e) 0 = some (match e.does.l.findIdx? (fun d => decide (4 ≤ d)) with | some k => Sum.inr (k : Int) | none => Sum.inl ()) := by
    intro e he
    refine find_loop (fun d => decide (4 ≤ d)) (fun k => Sum.inr (k : Int)) (Sum.inl ()) ?_ ?_
    · intro k hk
      have hw := wrap_nat (show k < 2 ^ 62 by have := oe.does e he; omega)
      simp only [L82_2_step, rd_nat hk, Option.bind_some, hw]
      rw [if_pos (by simp; omega)]
      split <;> rfl
    · simp only [L82_2_step]
      rw [if_neg (by simp)]
  have h1 : loopV (L82_1_step a0) 0 = some (if a0.l.any wrongE = true then Sum.inr () else Sum.inl ()) := by
    refine any_loop wrongE (Sum.inr ()) (Sum.inl ()) ?_ ?_
    · intro k hk
      have hw := wrap_nat (show k < 2 ^ 62 by have := oe.n; omega)
      simp only [L82_1_step, rd_nat hk, Option.bind_some, hw, h2 _ (List.getElem_mem hk)]
      rw [if_pos (by simp; omega)]
      rcases hf : (a0.l[k]).does.l.findIdx? (fun d => decide (4 ≤ d)) with _ | j
      · have : wrongE a0.l[k] = false := by
          rw [List.findIdx?_eq_none_iff] at hf
          simpa [wrongE] using hf
        simp [this]
      · have : wrongE a0.l[k] = true := by
          rw [List.findIdx?_eq_some_iff_getElem] at hf
          obtain ⟨g1, g2, -⟩ := hf
          exact List.any_eq_true.2 ⟨_, List.getElem_mem g1, g2⟩
        simp [this]
    · simp only [L82_1_step]
      rw [if_neg (by simp)]
  simp only [P82, h0, h1, Option.bind_some, wrongP]
  by_cases g1 : 4096 < a0.l.length
  · rw [if_pos (by simp; omega), if_pos g1]
  · rw [if_neg (by simp; omega), if_neg g1]
    rcases a0.l.any bigE with _ | _ <;> rcases a0.l.any wrongE with _ | _ <;> rfl
theorem wrong_ref (a0 : Sl Effects) (oe : OkE a0) : pc prog 85 [.list a0.n (a0.l.map eEffects)] = some (.int .i64 (wrongP a0.l)) := by
  refine ok85 a0 _ ?_
  have h0 : loopV (L85_0_step a0) 0 = some (if a0.l.any bigE = true then Sum.inr () else Sum.inl ()) := by
    refine any_loop bigE (Sum.inr ()) (Sum.inl ()) ?_ ?_
    · intro k hk
      have hw := wrap_nat (show k < 2 ^ 62 by have := oe.n; omega)
      simp only [L85_0_step, rd_nat hk, Option.bind_some, hw]
      rw [if_pos (by simp; omega)]
      have e1 : decide ((4096 : Int) < ((a0.l[k]).does.l.length : Int)) = decide (4096 < (a0.l[k]).does.l.length) := by rw [decide_eq_decide]; omega
      have e2 : decide ((4096 : Int) < ((a0.l[k]).gone.l.length : Int)) = decide (4096 < (a0.l[k]).gone.l.length) := by rw [decide_eq_decide]; omega
      by_cases h1 : 4096 < (a0.l[k]).does.l.length <;> by_cases h2 : 4096 < (a0.l[k]).gone.l.length <;> simp only [bigE, e1, e2, h1, h2, decide_true, decide_false] <;> rfl
    · simp only [L85_0_step]
      rw [if_neg (by simp)]
  have h2 : ∀ (j : Nat) (hj : j < a0.l.length), loopV (L85_2_step a0 (j : Int)) 0 = some (if wrongE a0.l[j] = true then Sum.inr () else Sum.inl ()) := by
    intro j hj
    refine any_loop (fun d => decide (4 ≤ d)) (Sum.inr ()) (Sum.inl ()) ?_ ?_
    · intro k hk
      have hw := wrap_nat (show k < 2 ^ 62 by have := oe.does _ (List.getElem_mem hj); omega)
      simp only [L85_2_step, rd_nat hj, rd_nat hk, Option.bind_some, hw]
      rw [if_pos (by simp; omega)]
      split <;> rfl
    · simp only [L85_2_step, rd_nat hj, Option.bind_some]
      rw [if_neg (by simp)]
  have h1 : loopV (L85_1_step a0) 0 = some (if a0.l.any wrongE = true then Sum.inr () else Sum.inl ()) := by
    refine any_loop wrongE (Sum.inr ()) (Sum.inl ()) ?_ ?_
    · intro k hk
      have hw := wrap_nat (show k < 2 ^ 62 by have := oe.n; omega)
      simp only [L85_1_step, Option.bind_some, hw, h2 k hk]
      rw [if_pos (by simp; omega)]
      rcases wrongE a0.l[k] with _ | _ <;> rfl
    · simp only [L85_1_step]
      rw [if_neg (by simp)]
  simp only [P85, h0, h1, Option.bind_some, wrongP]
  by_cases g1 : 4096 < a0.l.length
  · rw [if_pos (by simp; omega), if_pos g1]
  · rw [if_neg (by simp; omega), if_neg g1]
    rcases a0.l.any bigE with _ | _ <;> rcases a0.l.any wrongE with _ | _ <;> rfl
def allW (l : Listeners) (p : Sl Step) (e : Event) (clears : Bool) (es : List Effects) : Int :=
  if (beginP p.n p.l e clears).2 = 0 then (if check l = 0 then wrongP es else check l) else (beginP p.n p.l e clears).2
def allG (l : Listeners) (p : Sl Step) (e : Event) (clears : Bool) (es : List Effects) : List Call × Listeners × Run := goD es (8192 * 1025 + 1) l (beginP p.n p.l e clears).1 []
def allD (l : Listeners) (p : Sl Step) (e : Event) (clears : Bool) (es : List Effects) : Sl Call × Listeners × Event × Bool × Int :=
  if allW l p e clears es = 0 then (⟨(allG l p e clears es).1.isEmpty, (allG l p e clears es).1⟩, (allG l p e clears es).2.1, (endP (allG l p e clears es).2.2).1, (endP (allG l p e clears es).2.2).2.1, 0) else (⟨true, []⟩, .zero, .zero, false, allW l p e clears es)
theorem begin_ok {p : Sl Step} {e : Event} {clears : Bool} (hn : p.n = true → p.l = []) (hl : p.l.length ≤ 2 ^ 31) : OkR (beginP p.n p.l e clears).1 ∧ mu (beginP p.n p.l e clears).1 ≤ 8192 * 1025 := by
  unfold beginP
  split
  · exact ⟨okR_zero, by decide⟩
  split
  · exact ⟨okR_zero, by decide⟩
  split
  · exact ⟨okR_zero, by decide⟩
  · exact ⟨⟨hn, fun _ => rfl, hl, by simp⟩, by simp only [mu, List.length_nil]; omega⟩
theorem goD_ok (es : List Effects) : ∀ (n : Nat) (l : Listeners) (r : Run) (cs : List Call), OkL l → OkR r → OkL (goD es n l r cs).2.1 ∧ OkR (goD es n l r cs).2.2 := by
  intro n
  induction n with
  | zero => intro l r cs ol o; exact ⟨ol, o⟩
  | succ n ih =>
    intro l r cs ol o
    obtain ⟨o1, o2, -⟩ := next_ok ol o
    rw [goD]
    split
    · obtain ⟨d1, d2, -⟩ := done_ok es (nextD l r).2.2.1.callback o2 o1
      exact ih _ _ _ d1 d2
    · exact ⟨o2, o1⟩
theorem goD_len (es : List Effects) : ∀ (n : Nat) (l : Listeners) (r : Run) (cs : List Call), (goD es n l r cs).1.length ≤ cs.length + n := by
  intro n
  induction n with
  | zero => intro l r cs; simp [goD]
  | succ n ih =>
    intro l r cs
    rw [goD]
    split
    · have := ih (doneD es (nextD l r).2.2.1.callback (nextD l r).2.1 (nextD l r).1).1 (doneD es (nextD l r).2.2.1.callback (nextD l r).2.1 (nextD l r).1).2 (cs ++ [(nextD l r).2.2.1])
      simp only [List.length_append, List.length_cons, List.length_nil] at this
      omega
    · simp only; omega
theorem chain_eq {α : Type} (b c w : Int) (f : Int → Option α) : ((if (b == 0) = true then some c else some b : Option Int).bind fun r7 => (if (r7 == 0) = true then some w else some r7 : Option Int).bind f) = f (if b = 0 then (if c = 0 then w else c) else b) := by
  by_cases h1 : b = 0
  · rw [if_pos (by simp [h1]), if_pos h1, Option.bind_some]
    by_cases h2 : c = 0
    · rw [if_pos (by simp [h2]), if_pos h2]; rfl
    · rw [if_neg (by simp [h2]), if_neg h2]; rfl
  · rw [if_neg (by simp [h1]), if_neg h1, Option.bind_some, if_neg (by simp [h1])]; rfl
theorem all_prg {l : Listeners} {p : Sl Step} (e : Event) (clears : Bool) {es : Sl Effects} (ol : OkL l) (hn : p.n = true → p.l = []) (hl : p.l.length ≤ 2 ^ 31) (oe : OkE es) : pc prog 50 [eListeners l, .list p.n (p.l.map eStep), eEvent e, .bool clears, .list es.n (es.l.map eEffects)] = some ((eT5 (eSl eCall) eListeners eEvent D.bool (D.int .i64)) (allD l p e clears es.l)) := by
  refine ok50 l p e clears es _ ?_
  obtain ⟨o, hm⟩ := begin_ok (e := e) (clears := clears) hn hl
  have hg := go_prg es oe (8192 * 1025 + 1) l (beginP p.n p.l e clears).1 [] ol o (by omega) (by simp only [List.length_nil]; omega)
  have hgo := (goD_ok es.l (8192 * 1025 + 1) l (beginP p.n p.l e clears).1 [] ol o).2
  simp only [P50, begin_prg p.n p.l e clears hn hl, dec_t2, Option.bind_some, check_spec, dec_one, wrong_prg es oe]
  rw [chain_eq, show (if (beginP p.n p.l e clears).2 = 0 then (if check l = 0 then wrongP es.l else check l) else (beginP p.n p.l e clears).2) = allW l p e clears es.l from rfl]
  unfold allD
  by_cases hw : allW l p e clears es.l = 0
  · rw [if_neg (by simp [hw]), if_pos hw]
    simp only [hg, end_prg _ hgo.pl, dec_t3, Option.bind_some]
    rfl
  · rw [if_pos (by simp [hw]), if_neg hw]
    rfl
theorem end_near {a b : Run} (h : Near a b) : endP a = endP b := by
  have hr := right_near h
  obtain ⟨h1, h2, h3, h4, h5⟩ := h
  unfold endP endedP
  rw [hr, h1, h2, h3, h4, h5]
theorem all_ref {l : Listeners} {p : Sl Step} (e : Event) (clears : Bool) {es : Sl Effects} (ol : OkL l) (hn : p.n = true → p.l = []) (hl : p.l.length ≤ 2 ^ 31) (oe : OkE es) : ∃ o, pc prog 51 [eListeners l, .list p.n (p.l.map eStep), eEvent e, .bool clears, .list es.n (es.l.map eEffects)] = some ((eT5 (eSl eCall) eListeners eEvent D.bool (D.int .i64)) o) ∧ (allD l p e clears es.l).1 = o.1 ∧ SimL (allD l p e clears es.l).2.1 o.2.1 ∧ (allD l p e clears es.l).2.2 = o.2.2 := by
  obtain ⟨o, hm⟩ := begin_ok (e := e) (clears := clears) hn hl
  have hb2 : (beginP false p.l e clears).2 = (beginP p.n p.l e clears).2 := by
    unfold beginP; split <;> first | rfl | (split <;> first | rfl | (split <;> rfl))
  have hbn : Near (beginP p.n p.l e clears).1 (beginP false p.l e clears).1 := by
    unfold beginP; split <;> first | exact .refl | (split <;> first | exact .refl | (split <;> first | exact .refl | exact ⟨rfl, rfl, rfl, rfl, rfl⟩))
  obtain ⟨g, hg, g1, g2, g3⟩ := go_ref e es oe (8192 * 1025 + 1) l l (beginP p.n p.l e clears).1 (beginP false p.l e clears).1 [] .refl hbn ol o (by omega) (by simp only [List.length_nil]; omega)
  have hgo := (goD_ok es.l (8192 * 1025 + 1) l (beginP p.n p.l e clears).1 [] ol o).2
  by_cases hw : allW l p e clears es.l = 0
  · refine ⟨_, ok51 l p e clears es (⟨g.1.isEmpty, g.1⟩, g.2.1, (endP g.2.2).1, (endP g.2.2).2.1, 0) ?_, ?_⟩
    · simp only [P51, begin_ref p.n p.l e clears hl, dec_t2, Option.bind_some, check_ref, dec_one, wrong_ref es oe, hb2]
      rw [chain_eq, show (if (beginP p.n p.l e clears).2 = 0 then (if check l = 0 then wrongP es.l else check l) else (beginP p.n p.l e clears).2) = allW l p e clears es.l from rfl, if_neg (by simp [hw])]
      simp only [hg, end_ref _ (show g.2.2.path.l.length ≤ 2 ^ 31 by rw [← g3.2.1]; exact hgo.pl), dec_t3, Option.bind_some]
    · unfold allD
      simp only [if_pos hw]
      exact ⟨by rw [show (allG l p e clears es.l).1 = g.1 from g1], g2, by rw [end_near (show Near (allG l p e clears es.l).2.2 g.2.2 from g3)]⟩
  · refine ⟨_, ok51 l p e clears es (⟨true, []⟩, .zero, .zero, false, allW l p e clears es.l) ?_, ?_⟩
    · simp only [P51, begin_ref p.n p.l e clears hl, dec_t2, Option.bind_some, check_ref, dec_one, wrong_ref es oe, hb2]
      rw [chain_eq, show (if (beginP p.n p.l e clears).2 = 0 then (if check l = 0 then wrongP es.l else check l) else (beginP p.n p.l e clears).2) = allW l p e clears es.l from rfl, if_pos (by simp [hw])]
      rfl
    · unfold allD
      simp only [if_neg hw]
      exact ⟨trivial, .refl, trivial⟩
theorem calls_ref (a b : Sl Call) (h : a.l = b.l) (hl : a.l.length ≤ 2 ^ 31) : pc prog 52 [.list a.n (a.l.map eCall), .list b.n (b.l.map eCall)] = some (.bool true) := by
  refine ok52 a b _ ?_
  have h0 : loopV (L52_0_step a b) 0 = some (if a.l.any (fun _ => false) = true then Sum.inr () else Sum.inl ()) := by
    refine any_loop (fun _ => false) (Sum.inr ()) (Sum.inl ()) ?_ ?_
    · intro k hk
      have hw := wrap_nat (show k < 2 ^ 62 by omega)
      simp only [L52_0_step, ← h, rd_nat hk, Option.bind_some, hw]
      rw [if_pos (by simp; omega), if_neg (by simp)]
      rfl
    · simp only [L52_0_step]
      rw [if_neg (by simp)]
  simp only [P52, h0, Option.bind_some]
  rw [if_neg (by simp [h])]
  simp
theorem simL_same {a b : Listeners} (h : SimL a b) (hl : a.list.l.length ≤ 2 ^ 31) : SameL a b := by
  obtain ⟨h1, h2⟩ := h
  refine ⟨h1, hl, ?_⟩
  unfold next at h2
  rw [h1] at h2
  rcases hb : b.list.l with _ | ⟨x, xs⟩
  · have ha : a.list.l = [] := by rw [h1, hb]
    rw [hb] at h2
    simp only [List.length_nil, beq_self_eq_true, Bool.and_true, beq_iff_eq] at h2
    by_cases g1 : a.next = 0
    · rw [if_pos g1] at h2
      split at h2
      · exact .inl (by omega)
      · exact .inr ⟨ha, by omega⟩
    · rw [if_neg g1] at h2
      split at h2
      · exact .inr ⟨ha, by omega⟩
      · exact .inl h2
  · rw [hb] at h2
    simp only [List.length_cons] at h2
    rw [if_neg (by simp), if_neg (by simp)] at h2
    exact .inl h2
theorem law_alls (l : Listeners) (p : Sl Step) (e : Event) (clears : Bool) (es : Sl Effects) (ol : OkL l) (hn : p.n = true → p.l = []) (hl : p.l.length ≤ 2 ^ 31) (oe : OkE es) : pc prog 11 [eListeners l, .list p.n (p.l.map eStep), eEvent e, .bool clears, .list es.n (es.l.map eEffects)] = some (.bool true) := by
  refine ok11 l p e clears es true ?_
  obtain ⟨w, hw, h1, h2, h3⟩ := all_ref e clears ol hn hl oe
  have hlen : (allD l p e clears es.l).1.l.length ≤ 2 ^ 31 ∧ (allD l p e clears es.l).2.1.list.l.length ≤ 2 ^ 31 := by
    unfold allD
    split
    · have a1 := goD_len es.l (8192 * 1025 + 1) l (beginP p.n p.l e clears).1 []
      have a2 := (goD_ok es.l (8192 * 1025 + 1) l (beginP p.n p.l e clears).1 [] ol (begin_ok hn hl).1).1.len
      exact ⟨Nat.le_trans a1 (by simp only [List.length_nil]; omega), a2⟩
    · exact ⟨by simp, by simp [Listeners.zero]⟩
  have c1 := calls_ref (allD l p e clears es.l).1 w.1 (by rw [h1]) hlen.1
  have c2 := same_like (simL_same h2 hlen.2)
  have d1 : dec (eT5 (eSl eCall) eListeners eEvent D.bool (D.int .i64)) (pc prog 50 [eListeners l, .list p.n (p.l.map eStep), eEvent e, .bool clears, .list es.n (es.l.map eEffects)]) = some (allD l p e clears es.l) := by rw [all_prg e clears ol hn hl oe]; exact dec_t5
  have d2 : dec (eT5 (eSl eCall) eListeners eEvent D.bool (D.int .i64)) (pc prog 51 [eListeners l, .list p.n (p.l.map eStep), eEvent e, .bool clears, .list es.n (es.l.map eEffects)]) = some w := by rw [hw]; exact dec_t5
  simp only [P11, d1, d2, Option.bind_some, dec_one, c1, c2, h3, begins_true]
  simp
theorem bulk_mem {x : D} : ∀ {l : List D}, x ∈ l → D.bulk x ≤ D.bulkAll l
  | y :: l, h => by
    simp only [D.bulkAll]
    rcases List.mem_cons.1 h with rfl | h
    · omega
    · have := bulk_mem h; omega
theorem okE_of {es : Sl Effects} (h : Sl.ok (fun y => Effects.ok y) es) (hb : D.bulkAll (es.l.map eEffects) ≤ 1048576) : OkE es := by
  have h0 := len_bulkAll (es.l.map eEffects)
  simp only [List.length_map] at h0
  have hm : ∀ e ∈ es.l, e.does.l.length ≤ 1048576 ∧ e.gone.l.length ≤ 1048576 := by
    intro e he
    have h1 := bulk_mem (List.mem_map_of_mem (f := eEffects) he)
    have h2 := len_bulkAll (e.does.l.map (D.int .u8))
    have h3 := len_bulkAll (e.gone.l.map (D.int .i64))
    simp only [List.length_map] at h2 h3
    simp only [eEffects, D.bulkAll, D.bulk] at h1
    omega
  refine ⟨by omega, fun e he => ?_, fun e he => ?_, fun e he d hd => ?_⟩
  · have := hm e he; omega
  · have := hm e he; omega
  · have := ((h.2 e he).2.1.2 d hd).1
    simpa [IntKind.min, IntKind.signed] using this
theorem bulks_all {l : Listeners} {p : Sl Step} {e : Event} {clears : Bool} {es : Sl Effects} (hb : D.bulkAll [eListeners l, eSl eStep p, eEvent e, .bool clears, eSl eEffects es] ≤ 1048576) : l.list.l.length ≤ 1048576 ∧ p.l.length ≤ 1048576 ∧ D.bulkAll (es.l.map eEffects) ≤ 1048576 := by
  have h0 := len_bulkAll (l.list.l.map eListener)
  have h1 := len_bulkAll (p.l.map eStep)
  simp only [List.length_map] at h0 h1
  simp only [eListeners, eSl, D.bulkAll, D.bulk] at hb
  omega
theorem lawDispatchAlls (l : Listeners) (p : Sl Step) (e : Event) (clears : Bool) (es : Sl Effects) (o : Listeners.ok l) (o1 : Sl.ok (fun y => Step.ok y) p) (_ : Event.ok e) (_ : True) (o4 : Sl.ok (fun y => Effects.ok y) es) (hb : D.bulkAll [eListeners l, eSl eStep p, eEvent e, .bool clears, eSl eEffects es] ≤ 1048576) : pc prog 11 [eListeners l, eSl eStep p, eEvent e, .bool clears, eSl eEffects es] = some (.bool true) := by
  obtain ⟨h1, h2, h3⟩ := bulks_all hb
  exact law_alls l p e clears es ⟨o.1.1, by omega⟩ o1.1 (by omega) (okE_of o4 h3)
end Go.Proofs.Ytnijbejobbajfaa.E
