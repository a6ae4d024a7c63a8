/- Shaken copy of a longer text: what one law needs. Its conditions: none. -/
import Derived.Test.YtnijbejobbajfaaZDSpAlls
import Derived.Test.YtnijbejobbajfaaZDDecA
set_option linter.unusedSimpArgs false
set_option linter.unusedVariables false
set_option linter.unusedSectionVars false
set_option linter.unnecessarySimpa false
namespace Go.Proofs.Ytnijbejobbajfaa.D
open Go.AI
def actD (r : Run) (d : Int) : Run := (actP r.path.n r.due.n r d).1
def goneD (l : Listeners) (i : Int) : Listeners := (expire l i).1
def doneD (es : List Effects) (cb : Int) (l : Listeners) (r : Run) : Listeners × Run := match es.findIdx? (fun e => e.callback == cb) with
  | none => (l, r)
  | some k => ((es[k]!).gone.l.foldl goneD l, (es[k]!).does.l.foldl actD r)
theorem act_ok {r : Run} (o : OkR r) (d : Int) : OkR (actD r d) := by
  unfold actD actP
  split
  · exact okR_zero
  split
  · exact okR_zero
  · exact ⟨o.p, o.d, o.pl, o.dl⟩
theorem act_mu (r : Run) (d : Int) : mu (actD r d) ≤ mu r := by
  have hz : mu .zero = 0 := rfl
  unfold actD actP
  split
  · show mu Run.zero ≤ _; rw [hz]; exact Nat.zero_le _
  split
  · show mu Run.zero ≤ _; rw [hz]; exact Nat.zero_le _
  · exact Nat.le_refl _
theorem acts_ok : ∀ (ds : List Int) {r : Run}, OkR r → OkR (ds.foldl actD r) ∧ mu (ds.foldl actD r) ≤ mu r
  | [], _, o => ⟨o, Nat.le_refl _⟩
  | d :: ds, r, o => by
    have := acts_ok ds (act_ok o d)
    exact ⟨this.1, Nat.le_trans this.2 (act_mu r d)⟩
theorem gone_ok : ∀ (gs : List Int) {l : Listeners}, OkL l → OkL (gs.foldl goneD l)
  | [], _, o => o
  | g :: gs, _, o => gone_ok gs (okL_expire o g)
theorem done_ok (es : List Effects) (cb : Int) {l : Listeners} {r : Run} (ol : OkL l) (o : OkR r) : OkL (doneD es cb l r).1 ∧ OkR (doneD es cb l r).2 ∧ mu (doneD es cb l r).2 ≤ mu r := by
  unfold doneD
  split
  · exact ⟨ol, o, Nat.le_refl _⟩
  · exact ⟨gone_ok _ ol, (acts_ok _ o).1, (acts_ok _ o).2⟩
def goD (es : List Effects) : Nat → Listeners → Run → List Call → List Call × Listeners × Run
  | 0, l, r, cs => (cs, l, r)
  | n + 1, l, r, cs => if (nextD l r).2.2.2.1 = true then goD es n (doneD es (nextD l r).2.2.1.callback (nextD l r).2.1 (nextD l r).1).1 (doneD es (nextD l r).2.2.1.callback (nextD l r).2.1 (nextD l r).1).2 (cs ++ [(nextD l r).2.2.1]) else (cs, (nextD l r).2.1, (nextD l r).1)
theorem cb_loop (a4 : Sl Effects) (x0 : Listeners × Run × List Call) (w : Run × Listeners × Call × Bool × Int) (hl : a4.l.length ≤ 2 ^ 31) : loopV (L50_1_step a4 x0 w) 0 = some (match a4.l.findIdx? (fun e : Effects => e.callback == w.2.2.1.callback) with | some k => Sum.inr (k : Int) | none => Sum.inl ()) := by
  refine find_loop (fun e : Effects => e.callback == w.2.2.1.callback) (fun k => Sum.inr (k : Int)) (Sum.inl ()) ?_ ?_
  · intro k hk
    have hw := wrap_nat (show k < 2 ^ 62 by omega)
    simp only [L50_1_step, rd_nat hk, Option.bind_some, hw]
    rw [if_pos (by simp; omega)]
    split <;> rfl
  · simp only [L50_1_step]
    rw [if_neg (by simp)]
theorem act_loop (a4 : Sl Effects) (x0 : Listeners × Run × List Call) (w : Run × Listeners × Call × Bool × Int) (q : Int) (e : Effects) (hl : e.does.l.length ≤ 2 ^ 31) {r : Run} (o : OkR r) : loopV (L50_2_step a4 x0 w q e) (r, 0) = some (e.does.l.foldl actD r) := by
  refine (fold_loop (step := L50_2_step a4 x0 w q e) actD OkR ?_ ?_ r o).1
  · intro k hk x hx
    have hw := wrap_nat (show k < 2 ^ 62 by omega)
    refine ⟨?_, act_ok hx _⟩
    simp only [L50_2_step, rd_nat hk, Option.bind_some, hw, act_prg x _ hx.p hx.d hx.pl hx.dl, dec_t2]
    rw [if_pos (by simp; omega)]
    rfl
  · intro x hx
    simp only [L50_2_step]
    rw [if_neg (by simp)]
theorem gone_loop (a4 : Sl Effects) (x0 : Listeners × Run × List Call) (w : Run × Listeners × Call × Bool × Int) (e : Effects) (r : Run) (hl : e.gone.l.length ≤ 2 ^ 31) (l : Listeners) : loopV (L50_3_step a4 x0 w e r) (l, 0) = some (e.gone.l.foldl goneD l) := by
  refine (fold_loop (step := L50_3_step a4 x0 w e r) goneD (fun _ => True) ?_ ?_ l trivial).1
  · intro k hk x hx
    have hw := wrap_nat (show k < 2 ^ 62 by omega)
    refine ⟨?_, trivial⟩
    simp only [L50_3_step, rd_nat hk, Option.bind_some, hw, expire_spec, dec_t3]
    rw [if_pos (by simp; omega)]
    rfl
  · intro x hx
    simp only [L50_3_step]
    rw [if_neg (by simp)]
structure OkE (a4 : Sl Effects) : Prop where
  n : a4.l.length ≤ 2 ^ 31
  does : ∀ e ∈ a4.l, e.does.l.length ≤ 2 ^ 31
  gone : ∀ e ∈ a4.l, e.gone.l.length ≤ 2 ^ 31
  nat : ∀ e ∈ a4.l, ∀ d ∈ e.does.l, 0 ≤ d
theorem go_prg (a4 : Sl Effects) (oe : OkE a4) : ∀ (n : Nat) (l : Listeners) (r : Run) (cs : List Call), OkL l → OkR r → mu r < n → cs.length + mu r ≤ 2 ^ 24 → loopV (L50_0_step a4) (l, r, cs) = some (goD a4.l n l r cs) := by
  intro n
  induction n with
  | zero => intro l r cs _ _ h _; omega
  | succ n ih =>
    intro l r cs ol o hm hc
    obtain ⟨o1, o2, o3⟩ := next_ok ol o
    have hp := prg_next ol o
    rw [goD]
    generalize nextD l r = w at *
    by_cases hb : w.2.2.2.1 = true
    · rw [if_pos hb]
      obtain ⟨-, -, hlt⟩ := o3 hb
      obtain ⟨d1, d2, d3⟩ := done_ok a4.l w.2.2.1.callback o2 o1
      have hroom : (cs.length + 1) * 24 ≤ AI.roomBytes := room_le (n := cs.length + 1) (bytes := 24) (by omega) (by decide)
      have hs : L50_0_step a4 (l, r, cs) = some (.inl ((doneD a4.l w.2.2.1.callback w.2.1 w.1).1, (doneD a4.l w.2.2.1.callback w.2.1 w.1).2, cs ++ [w.2.2.1])) := by
        simp only [L50_0_step, hp, eT5, dec_t5, Option.bind_some]
        rw [if_neg (by simp [hb]), if_pos hroom]
        simp only [cb_loop a4 _ _ oe.n, Option.bind_some, doneD]
        rcases hf : a4.l.findIdx? (fun e => e.callback == w.2.2.1.callback) with _ | k
        · simp only [hf]
        · have hk : k < a4.l.length := by
            rw [List.findIdx?_eq_some_iff_getElem] at hf
            exact hf.1
          have hget : a4.l[k]! = a4.l[k] := by simp [hk]
          have hmem := List.getElem_mem hk
          simp only [hf, rd_nat hk, Option.bind_some, act_loop a4 _ _ _ _ (oe.does _ hmem) o1, gone_loop a4 _ _ _ _ (oe.gone _ hmem), hget]
          rw [if_neg (by simp)]
      rw [loopV_next hs]
      exact ih _ _ _ d1 d2 (by omega) (by simp only [List.length_append, List.length_cons, List.length_nil]; omega)
    · rw [if_neg hb]
      refine loopV_done ?_
      simp only [L50_0_step, hp, eT5, dec_t5, Option.bind_some]
      rw [if_pos (by simpa using hb)]
def bigE (e : Effects) : Bool := decide (4096 < e.does.l.length) || decide (4096 < e.gone.l.length)
def wrongE (e : Effects) : Bool := e.does.l.any fun d => decide (4 ≤ d)
def wrongP (es : List Effects) : Int := if 4096 < es.length then 3 else if es.any bigE = true then 3 else if es.any wrongE = true then 23 else 0
theorem wrong_prg (a0 : Sl Effects) (oe : OkE a0) : pc prog 82 [.list a0.n (a0.l.map eEffects)] = some (.int .i64 (wrongP a0.l)) := by
  refine ok82 a0 _ ?_
  have h0 : loopV (L82_0_step a0) 0 = some (if a0.l.any bigE = true then Sum.inr () else Sum.inl ()) := by
    refine any_loop bigE (Sum.inr ()) (Sum.inl ()) ?_ ?_
    · intro k hk
      have hw := wrap_nat (show k < 2 ^ 62 by have := oe.n; omega)
      simp only [L82_0_step, rd_nat hk, Option.bind_some, hw]
      rw [if_pos (by simp; omega)]
      have e1 : decide ((4096 : Int) < ((a0.l[k]).does.l.length : Int)) = decide (4096 < (a0.l[k]).does.l.length) := by rw [decide_eq_decide]; omega
      have e2 : decide ((4096 : Int) < ((a0.l[k]).gone.l.length : Int)) = decide (4096 < (a0.l[k]).gone.l.length) := by rw [decide_eq_decide]; omega
      by_cases h1 : 4096 < (a0.l[k]).does.l.length <;> by_cases h2 : 4096 < (a0.l[k]).gone.l.length <;> simp only [bigE, e1, e2, h1, h2, decide_true, decide_false] <;> rfl
    · simp only [L82_0_step]
      rw [if_neg (by simp)]
  have h2 : ∀ e ∈ a0.l, loopV (L82_2_step e) 0 = some (match e.does.l.findIdx? (fun d => decide (4 ≤ d)) with | some k => Sum.inr (k : Int) | none => Sum.inl ()) := by
    intro e he
    refine find_loop (fun d => decide (4 ≤ d)) (fun k => Sum.inr (k : Int)) (Sum.inl ()) ?_ ?_
    · intro k hk
      have hw := wrap_nat (show k < 2 ^ 62 by have := oe.does e he; omega)
      simp only [L82_2_step, rd_nat hk, Option.bind_some, hw]
      rw [if_pos (by simp; omega)]
      split <;> rfl
    · simp only [L82_2_step]
      rw [if_neg (by simp)]
  have h1 : loopV (L82_1_step a0) 0 = some (if a0.l.any wrongE = true then Sum.inr () else Sum.inl ()) := by
    refine any_loop wrongE (Sum.inr ()) (Sum.inl ()) ?_ ?_
    · intro k hk
      have hw := wrap_nat (show k < 2 ^ 62 by have := oe.n; omega)
      simp only [L82_1_step, rd_nat hk, Option.bind_some, hw, h2 _ (List.getElem_mem hk)]
      rw [if_pos (by simp; omega)]
      rcases hf : (a0.l[k]).does.l.findIdx? (fun d => decide (4 ≤ d)) with _ | j
      · have : wrongE a0.l[k] = false := by
          rw [List.findIdx?_eq_none_iff] at hf
          simpa [wrongE] using hf
        simp [this]
      · have : wrongE a0.l[k] = true := by
          rw [List.findIdx?_eq_some_iff_getElem] at hf
          obtain ⟨g1, g2, -⟩ := hf
          exact List.any_eq_true.2 ⟨_, List.getElem_mem g1, g2⟩
        simp [this]
    · simp only [L82_1_step]
      rw [if_neg (by simp)]
  simp only [P82, h0, h1, Option.bind_some, wrongP]
  by_cases g1 : 4096 < a0.l.length
  · rw [if_pos (by simp; omega), if_pos g1]
  · rw [if_neg (by simp; omega), if_neg g1]
    rcases a0.l.any bigE with _ | _ <;> rcases a0.l.any wrongE with _ | _ <;> rfl
def allW (l : Listeners) (p : Sl Step) (e : Event) (clears : Bool) (es : List Effects) : Int :=
  if (beginP p.n p.l e clears).2 = 0 then (if check l = 0 then wrongP es else check l) else (beginP p.n p.l e clears).2
def allG (l : Listeners) (p : Sl Step) (e : Event) (clears : Bool) (es : List Effects) : List Call × Listeners × Run := goD es (8192 * 1025 + 1) l (beginP p.n p.l e clears).1 []
def allD (l : Listeners) (p : Sl Step) (e : Event) (clears : Bool) (es : List Effects) : Sl Call × Listeners × Event × Bool × Int :=
  if allW l p e clears es = 0 then (⟨(allG l p e clears es).1.isEmpty, (allG l p e clears es).1⟩, (allG l p e clears es).2.1, (endP (allG l p e clears es).2.2).1, (endP (allG l p e clears es).2.2).2.1, 0) else (⟨true, []⟩, .zero, .zero, false, allW l p e clears es)
theorem begin_ok {p : Sl Step} {e : Event} {clears : Bool} (hn : p.n = true → p.l = []) (hl : p.l.length ≤ 2 ^ 31) : OkR (beginP p.n p.l e clears).1 ∧ mu (beginP p.n p.l e clears).1 ≤ 8192 * 1025 := by
  unfold beginP
  split
  · exact ⟨okR_zero, by decide⟩
  split
  · exact ⟨okR_zero, by decide⟩
  split
  · exact ⟨okR_zero, by decide⟩
  · exact ⟨⟨hn, fun _ => rfl, hl, by simp⟩, by simp only [mu, List.length_nil]; omega⟩
theorem goD_ok (es : List Effects) : ∀ (n : Nat) (l : Listeners) (r : Run) (cs : List Call), OkL l → OkR r → OkL (goD es n l r cs).2.1 ∧ OkR (goD es n l r cs).2.2 := by
  intro n
  induction n with
  | zero => intro l r cs ol o; exact ⟨ol, o⟩
  | succ n ih =>
    intro l r cs ol o
    obtain ⟨o1, o2, -⟩ := next_ok ol o
    rw [goD]
    split
    · obtain ⟨d1, d2, -⟩ := done_ok es (nextD l r).2.2.1.callback o2 o1
      exact ih _ _ _ d1 d2
    · exact ⟨o2, o1⟩
theorem goD_len (es : List Effects) : ∀ (n : Nat) (l : Listeners) (r : Run) (cs : List Call), (goD es n l r cs).1.length ≤ cs.length + n := by
  intro n
  induction n with
  | zero => intro l r cs; simp [goD]
  | succ n ih =>
    intro l r cs
    rw [goD]
    split
    · have := ih (doneD es (nextD l r).2.2.1.callback (nextD l r).2.1 (nextD l r).1).1 (doneD es (nextD l r).2.2.1.callback (nextD l r).2.1 (nextD l r).1).2 (cs ++ [(nextD l r).2.2.1])
      simp only [List.length_append, List.length_cons, List.length_nil] at this
      omega
    · simp only; omega
theorem chain_eq {α : Type} (b c w : Int) (f : Int → Option α) : ((if (b == 0) = true then some c else some b : Option Int).bind fun r7 => (if (r7 == 0) = true then some w else some r7 : Option Int).bind f) = f (if b = 0 then (if c = 0 then w else c) else b) := by
  by_cases h1 : b = 0
  · rw [if_pos (by simp [h1]), if_pos h1, Option.bind_some]
    by_cases h2 : c = 0
    · rw [if_pos (by simp [h2]), if_pos h2]; rfl
    · rw [if_neg (by simp [h2]), if_neg h2]; rfl
  · rw [if_neg (by simp [h1]), if_neg h1, Option.bind_some, if_neg (by simp [h1])]; rfl
theorem all_prg {l : Listeners} {p : Sl Step} (e : Event) (clears : Bool) {es : Sl Effects} (ol : OkL l) (hn : p.n = true → p.l = []) (hl : p.l.length ≤ 2 ^ 31) (oe : OkE es) : pc prog 50 [eListeners l, .list p.n (p.l.map eStep), eEvent e, .bool clears, .list es.n (es.l.map eEffects)] = some ((eT5 (eSl eCall) eListeners eEvent D.bool (D.int .i64)) (allD l p e clears es.l)) := by
  refine ok50 l p e clears es _ ?_
  obtain ⟨o, hm⟩ := begin_ok (e := e) (clears := clears) hn hl
  have hg := go_prg es oe (8192 * 1025 + 1) l (beginP p.n p.l e clears).1 [] ol o (by omega) (by simp only [List.length_nil]; omega)
  have hgo := (goD_ok es.l (8192 * 1025 + 1) l (beginP p.n p.l e clears).1 [] ol o).2
  simp only [P50, begin_prg p.n p.l e clears hn hl, dec_t2, Option.bind_some, check_spec, dec_one, wrong_prg es oe]
  rw [chain_eq, show (if (beginP p.n p.l e clears).2 = 0 then (if check l = 0 then wrongP es.l else check l) else (beginP p.n p.l e clears).2) = allW l p e clears es.l from rfl]
  unfold allD
  by_cases hw : allW l p e clears es.l = 0
  · rw [if_neg (by simp [hw]), if_pos hw]
    simp only [hg, end_prg _ hgo.pl, dec_t3, Option.bind_some]
    rfl
  · rw [if_pos (by simp [hw]), if_neg hw]
    rfl
end Go.Proofs.Ytnijbejobbajfaa.D
