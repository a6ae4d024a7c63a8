/- Shaken copy of a longer text: what one law needs. Its conditions: none. -/
import Derived.Test.YtnijbejobbajfaaZDSpDown
set_option linter.unusedSimpArgs false
set_option linter.unusedVariables false
set_option linter.unusedSectionVars false
set_option linter.unnecessarySimpa false
namespace Go.Proofs.Ytnijbejobbajfaa.D
open Go.AI
theorem late_end {p : List Step} {e : Event} {x : Listener} : late p e (2 * p.length) x = false := by
  rcases hc : late p e (2 * p.length) x with _ | _
  · rfl
  · obtain ⟨k, hk, -, h⟩ := late_iff.1 hc
    unfold turnOf at h
    split at h <;> omega
theorem nextP_count {a0 : List Listener} (ha : a0.Pairwise (fun a b => a.id < b.id)) {p : List Step} (hp : Distinct p) {e : Event} {l : Listeners} : ∀ (n : Nat) (r : Run), Inv a0 p e l r → r.event.stop = false → r.turn + n = 2 * p.length →
    ((nextP l n r).2 = none → l.list.l.countP (wt p e r) = 0) ∧ (∀ m c, (nextP l n r).2 = some (m, c) → l.list.l.countP (wt p e r) = m.list.l.countP (wt p e (nextP l n r).1) + 1)
  | n, r, h, hs, hn => by
    rcases callP_first l r r.due.l with ⟨h0, hc⟩ | ⟨pre, id, x, d', hd, hpre, hb, hc⟩
    · have hi : Inv a0 p e l { r with due := ⟨r.due.n, []⟩ } := ⟨h.path, h.ty, h.bub, h.can, h.disp, h.t0, h.t1, h.pl, by simp, .inr rfl, h.sub, h.ck, by simp, List.Pairwise.nil⟩
      have hsk := countP_eq (wt_skip (e := e) (p := p) h0)
      cases n with
      | zero =>
        simp only [nextP, hc]
        refine ⟨fun _ => ?_, fun m c hh => (nomatch hh)⟩
        rw [← hsk, List.countP_eq_zero]
        intro x hx
        have : r.turn = 2 * p.length := by omega
        simp only [wt, this, late_end, List.contains_nil, Bool.or_false]
        simp
      | succ n =>
        simp only [nextP, hc]
        have ht : r.turn < 2 * p.length := by omega
        have hwt := countP_eq (wt_turn hi rfl ht hs)
        obtain ⟨t1, t2, t3, t4⟩ := turn_inv hi rfl ht
        obtain ⟨n1, n2⟩ := nextP_count ha hp n _ t1 (by rw [t2.stop]; exact hs) (by rw [t3]; show r.turn + 1 + _ = _; omega)
        rw [← hsk, ← hwt]
        exact ⟨n1, n2⟩
    · have w := wt_call ha hp h hd hpre hb { r.event with passive := x.passive == 1 }
      cases n with
      | zero =>
        simp only [nextP, hc]
        exact ⟨fun hh => (nomatch hh), fun m c hh => by cases hh; exact w⟩
      | succ n =>
        simp only [nextP, hc]
        exact ⟨fun hh => (nomatch hh), fun m c hh => by cases hh; exact w⟩
theorem go_count {a0 : List Listener} {p : List Step} {e : Event} (ha : a0.Pairwise (fun a b => a.id < b.id)) (hp : Distinct p) : ∀ (n : Nat) (l : Listeners) (r : Run) (cs0 : List Call), Inv a0 p e l r → r.event.stop = false → r.event.stopNow = false → mu r < n → (goD [] n l r cs0).1.length = cs0.length + l.list.l.countP (wt p e r) := by
  intro n
  induction n with
  | zero => intro l r cs0 _ _ _ h; omega
  | succ n ih =>
    intro l r cs0 h hs hsn hm
    have hst := inv_start h
    have hN : (startP r).turn + ((2 * r.path.l.length - r.turn).toNat : Nat) = 2 * p.length := by
      have := h.t1
      show r.turn + _ = _
      rw [h.path]
      omega
    have hse : (startP r).due = r.due := by simp [startP, hsn]
    have hwt : ∀ x, wt p e (startP r) x = wt p e r x := by
      intro x
      unfold wt
      rw [hse]
      rfl
    obtain ⟨n1, n2⟩ := nextP_inv ha (2 * r.path.l.length - r.turn).toNat (startP r) hst hN
    obtain ⟨k1, k2⟩ := nextP_count ha hp (2 * r.path.l.length - r.turn).toNat (startP r) hst hs hN
    rw [countP_eq fun x _ => hwt x] at k1 k2
    have hmu : mu (startP r) ≤ mu r := by simp [mu, startP, hsn]
    have n5 := nextP_mu l (check_len h.ck) (2 * r.path.l.length - r.turn).toNat (startP r)
    have hnd : nextD l r = outP (outR l id (nextP l (2 * r.path.l.length - r.turn).toNat (startP r))) := by
      unfold nextD; rw [if_pos h.ck, if_pos h.right]
    rw [goD, hnd]
    generalize nextP l (2 * r.path.l.length - r.turn).toNat (startP r) = u at *
    obtain ⟨r', _ | ⟨m, c⟩⟩ := u
    · rw [if_neg (by simp [outP, outR]), k1 rfl]
      rfl
    · obtain ⟨x, w⟩ := n2 m c rfl
      rw [if_pos (by simp [outP, outR])]
      have hlt : mu r' < mu (startP r) := n5 (m, c) h.t0 (by rw [hN, hst.path]) rfl
      have hd : doneD [] c.callback m r' = (m, r') := rfl
      show (goD [] n (doneD [] c.callback m r').1 (doneD [] c.callback m r').2 (cs0 ++ [c])).1.length = _
      rw [hd, ih m r' (cs0 ++ [c]) w.inv (by rw [w.keeps.stop]; exact hs) (by rw [w.keeps.now]; exact hsn) (by omega), k2 m c rfl]
      simp only [List.length_append, List.length_cons, List.length_nil]
      omega
def Asc (a0 : List Listener) (p : List Step) (e : Event) : Int → Int → List Call → Prop
  | _, _, [] => True
  | t, i, c :: cs => ∃ (t' : Int) (x : Listener), x ∈ a0 ∧ x.id = c.id ∧ c.callback = x.callback ∧ 0 ≤ t' ∧ t' < 2 * p.length ∧ Hit p e t' x ∧ c.step = (placeP p.length t').1 ∧ t ≤ t' ∧ (t' = t → i < c.id) ∧ Asc a0 p e t' c.id cs
theorem tr_asc {es : List Effects} {a0 : List Listener} {p : List Step} {e : Event} {l l' : Listeners} {r r' : Run} {cs : List Call} (h : Tr es a0 p e l r cs l' r') : ∀ t i, t ≤ r.turn - 1 → (t = r.turn - 1 → ∀ id ∈ r.due.l, i < id) → Asc a0 p e t i cs := by
  induction h with
  | nil => intro _ _ _ _; trivial
  | @cons l m l' r r' r'' c x cs hi w _ ih =>
    intro t i ht hti
    have htu : r.turn ≤ r'.turn := w.turn
    have h1 := w.inv.t1
    have hpos := w.pos
    refine ⟨r'.turn - 1, x, hi.sub.subset w.mem, w.id, w.cb, by omega, by omega, w.hit, w.step, by omega, fun he => ?_, ih _ _ (Int.le_refl _) (fun _ => w.asc)⟩
    obtain ⟨pre, hpre⟩ := w.same (show r'.turn = r.turn by omega)
    refine hti (by omega) c.id ?_
    have : c.id ∈ (startP r).due.l := by rw [hpre]; simp
    rcases hq : r.event.stopNow with _ | _
    · simpa [startP, hq] using this
    · simp [startP, hq] at this
def ms (e : Event) (x : Listener) (s : Step) : Bool := x.node == s.item && x.type_ == e.type_ && (x.capture || !(s.target == 0) || e.bubbles)
theorem late_zero {p : List Step} {e : Event} {x : Listener} : late p e 0 x = p.any (ms e x) := by
  rw [Bool.eq_iff_iff, late_iff, List.any_eq_true]
  constructor
  · rintro ⟨k, hk, h, -⟩
    have hb : p[k]! = p[k] := by simp [hk]
    exact ⟨p[k], List.getElem_mem hk, by simpa only [mt, ms, hb] using h⟩
  · rintro ⟨s, hs, h⟩
    obtain ⟨k, hk, rfl⟩ := List.getElem_of_mem hs
    have hb : p[k]! = p[k] := by simp [hk]
    refine ⟨k, hk, by simpa only [mt, ms, hb] using h, ?_⟩
    unfold turnOf
    split <;> omega
theorem ms_one {e : Event} {x : Listener} : ∀ {p : List Step}, p.Pairwise (fun a b => a.item ≠ b.item) → p.countP (ms e x) = if p.any (ms e x) = true then 1 else 0
  | [], _ => rfl
  | s :: p, h => by
    rw [List.countP_cons, List.any_cons, ms_one h.of_cons]
    rcases hs : ms e x s with _ | _
    · simp
    · have : p.any (ms e x) = false := by
        rcases hq : p.any (ms e x) with _ | _
        · rfl
        · obtain ⟨z, hz, hz2⟩ := List.any_eq_true.1 hq
          have := List.rel_of_pairwise_cons h hz
          simp only [ms, Bool.and_eq_true, beq_iff_eq] at hs hz2
          exact absurd (hs.1.1.symm.trans hz2.1.1) this
      rw [this]; simp
theorem sum_count {p : List Step} {e : Event} (h : p.Pairwise (fun a b => a.item ≠ b.item)) : ∀ l : List Listener, (l.map fun x => p.countP (ms e x)).sum = l.countP (late p e 0)
  | [] => rfl
  | x :: l => by
    rw [List.map_cons, List.sum_cons, List.countP_cons, sum_count h l, ms_one h, late_zero]
    omega
theorem distinct_spec (p : Sl Step) (hl : p.l.length ≤ 2 ^ 31) : ∃ b, pc prog 53 [.list p.n (p.l.map eStep)] = some (.bool b) ∧ (b = true → p.l.Pairwise (fun a b => a.item ≠ b.item)) := by
  have h1 : ∀ k (hk : k < p.l.length), ∃ r, loopV (L53_1_step p (k : Int)) 0 = some r ∧ (r = .inr () ∨ (r = .inl () ∧ ∀ j (hj : j < k), (p.l[j]).item ≠ (p.l[k]).item)) := by
    intro k hk
    exact loopV_upto (step := L53_1_step p (k : Int)) k (fun j y => y = (j : Int) ∧ ∀ i (hi : i < j) (hi2 : i < p.l.length), (p.l[i]).item ≠ (p.l[k]).item) _ (by
      rintro j y hj ⟨rfl, hF⟩
      have hwr := wrap_nat (show j < 2 ^ 62 by omega)
      by_cases h : j < k
      · have hj' : j < p.l.length := by omega
        rcases hq : (p.l[j]).item == (p.l[k]).item with _ | _
        · left
          refine ⟨h, ((j + 1 : Nat) : Int), ?_, rfl, fun i hi hi2 => ?_⟩
          · simp only [L53_1_step, rd_nat hj', rd_nat hk, Option.bind_some, hwr, hq]
            rw [if_pos (by rw [decide_eq_true_eq]; omega)]
            rfl
          · by_cases he : i = j
            · subst he; simpa using hq
            · exact hF i (by omega) hi2
        · right
          refine ⟨.inr (), ?_, .inl rfl⟩
          simp only [L53_1_step, rd_nat hj', rd_nat hk, Option.bind_some, hwr, hq]
          rw [if_pos (by rw [decide_eq_true_eq]; omega)]
          rfl
      · right
        obtain rfl : j = k := by omega
        refine ⟨.inl (), ?_, .inr ⟨rfl, fun i hi => hF i hi (by omega)⟩⟩
        simp only [L53_1_step]
        rw [if_neg (by simp)]) 0 0 (Nat.zero_le _) ⟨rfl, fun i hi => by omega⟩
  obtain ⟨r, hr, hP⟩ := loopV_upto (step := L53_0_step p) p.l.length (fun k x => x = (k : Int) ∧ ∀ i j (_ : i < j) (_ : j < k) (hi : i < p.l.length) (hj : j < p.l.length), (p.l[i]).item ≠ (p.l[j]).item) (fun r => r = .inr () ∨ (r = .inl () ∧ ∀ i j (_ : i < j) (hi : i < p.l.length) (hj : j < p.l.length), (p.l[i]).item ≠ (p.l[j]).item)) (by
    rintro k x hk ⟨rfl, hF⟩
    have hwr := wrap_nat (show k < 2 ^ 62 by omega)
    by_cases h : k < p.l.length
    · obtain ⟨r, hr, hr2⟩ := h1 k h
      rcases hr2 with rfl | ⟨rfl, hn⟩
      · right
        refine ⟨.inr (), ?_, .inl rfl⟩
        simp only [L53_0_step, hr, Option.bind_some]
        rw [if_pos (by rw [decide_eq_true_eq]; omega)]
      · left
        refine ⟨h, ((k + 1 : Nat) : Int), ?_, rfl, fun i j hij hjk hi hj => ?_⟩
        · simp only [L53_0_step, hr, Option.bind_some, hwr]
          rw [if_pos (by rw [decide_eq_true_eq]; omega)]
        · by_cases he : j = k
          · subst he; exact hn i hij
          · exact hF i j hij (by omega) hi hj
    · right
      obtain rfl : k = p.l.length := by omega
      refine ⟨.inl (), ?_, .inr ⟨rfl, fun i j hij hi hj => hF i j hij hj hi hj⟩⟩
      simp only [L53_0_step]
      rw [if_neg (by simp)]) 0 0 (Nat.zero_le _) ⟨rfl, fun i j _ hj => by omega⟩
  rcases hP with rfl | ⟨rfl, hn⟩
  · exact ⟨false, ok53 p false (by simp only [P53, hr, Option.bind_some]), fun h => by cases h⟩
  · exact ⟨true, ok53 p true (by simp only [P53, hr, Option.bind_some]), fun _ => List.pairwise_iff_getElem.2 fun i j hi hj hij => hn i j hij hi hj⟩
theorem distinct_of {p : List Step} (h : p.Pairwise (fun a b => a.item ≠ b.item)) : Distinct p := by
  intro i j hi hj he
  rcases Nat.lt_trichotomy i j with hl | hl | hl
  · exact absurd he (List.pairwise_iff_getElem.1 h i j hi hj hl)
  · exact hl
  · exact absurd he.symm (List.pairwise_iff_getElem.1 h j i hj hi hl)
theorem asc_loop (l : Listeners) (p : Sl Step) (e : Event) (w : Sl Call × Listeners × Event × Bool × Int) (ol : OkL l) (hpl : p.l.length ≤ 4096) (hp : l.list.l.Pairwise (fun a b => a.id < b.id)) (hlen : w.1.l.length ≤ 2 ^ 31) : ∀ (cs : List Call) (k : Nat) (t i : Int), w.1.l.drop k = cs → Asc l.list.l p.l e t i cs → loopV (L12_0_step l p e w) (t, i, (k : Int)) = some (.inl ())
  | [], k, t, i, hk, _ => by
    refine loopV_done ?_
    have : w.1.l.length ≤ k := by simpa using hk
    simp only [L12_0_step]
    rw [if_neg (by rw [decide_eq_true_eq]; omega)]
  | c :: cs, k, t, i, hk, h => by
    obtain ⟨t', x, hx, ix, icb, h0, h1, hit, hst, htt, hii, hrest⟩ := h
    have hkl : k < w.1.l.length := by
      rcases Nat.lt_or_ge k w.1.l.length with h | h
      · exact h
      · rw [List.drop_eq_nil_of_le h] at hk; cases hk
    rw [List.drop_eq_getElem_cons hkl] at hk
    obtain ⟨hc, hk'⟩ := List.cons.inj hk
    have hwr := wrap_nat (show k < 2 ^ 62 by omega)
    have bx : byP l.list.l c.id = some x := ix ▸ byP_of hp hx
    obtain ⟨j, hj, cap, q1, q2, q3, q4⟩ := hit
    have hto := of_place h0 h1 q1
    have hstep : c.step = (j : Int) := by rw [hst, q1]
    have hord : (if (!x.capture) = true then some (IntKind.wrap .i64 ((p.l.length : Int) + c.step)) else some (IntKind.wrap .i64 ((IntKind.wrap .i64 ((p.l.length : Int) - 1)) - c.step)) : Option Int) = some t' := by
      rw [hstep, q4]
      unfold turnOf at hto
      cases cap
      · rw [if_pos (by simp)]
        simp only [Bool.false_eq_true, if_false] at hto
        rw [hto, IntKind.wrap_i64]
        exact congrArg some (by omega)
      · rw [if_neg (by simp)]
        simp only [if_true] at hto
        have e1 : IntKind.wrap .i64 ((p.l.length : Int) - 1) = (p.l.length : Int) - 1 := by rw [IntKind.wrap_i64]; omega
        rw [e1, hto, IntKind.wrap_i64]
        exact congrArg some (by omega)
    have hs : L12_0_step l p e w (t, i, (k : Int)) = some (.inl (t', c.id, ((k + 1 : Nat) : Int))) := by
      simp only [L12_0_step, rd_nat hkl, hc, Option.bind_some, by_law l _ ol.len, dec_t2, bx, Option.getD_some, Option.isSome_some, hwr]
      rw [if_pos (by rw [decide_eq_true_eq]; omega), if_pos (by rw [hstep]; simp; omega)]
      simp only [hstep, rd_nat hj, Option.bind_some]
      rw [if_pos (by simp [q2, q3]), if_neg (by simp [icb])]
      rw [← hstep, hord, Option.bind_some, if_pos (by simp; omega)]
      by_cases he : t' = t
      · rw [if_pos (by simp [he]), if_neg (by have := hii he; simp; omega)]
      · rw [if_neg (by simp [he])]
    rw [loopV_next hs]
    exact asc_loop l p e w ol hpl hp hlen cs (k + 1) t' c.id hk' hrest
theorem steps_loop (l : Listeners) (p : Sl Step) (e : Event) (w : Sl Call × Listeners × Event × Bool × Int) (hpl : p.l.length ≤ 4096) (n0 : Nat) (hn0 : n0 ≤ 2 ^ 40) (k : Nat) (hk : k < l.list.l.length) : loopV (L12_2_step l p e w ((n0 : Int), (k : Int))) ((n0 : Int), 0) = some (((n0 + p.l.countP (ms e l.list.l[k]) : Nat) : Int)) := by
  obtain ⟨r, hr, rfl⟩ := loopV_upto (step := L12_2_step l p e w ((n0 : Int), (k : Int))) p.l.length (fun j x => x.2 = (j : Int) ∧ x.1 = ((n0 + (p.l.take j).countP (ms e l.list.l[k]) : Nat) : Int)) (fun r => r = ((n0 + p.l.countP (ms e l.list.l[k]) : Nat) : Int)) (by
    rintro j ⟨a, b⟩ hj ⟨h1, h2⟩
    obtain rfl : b = (j : Int) := h1
    obtain rfl : a = ((n0 + (p.l.take j).countP (ms e l.list.l[k]) : Nat) : Int) := h2
    by_cases h : j < p.l.length
    · left
      have hwr := wrap_nat (show j < 2 ^ 62 by omega)
      have hcl : (p.l.take j).countP (ms e l.list.l[k]) ≤ 4096 := Nat.le_trans List.countP_le_length (by rw [List.length_take]; omega)
      have hwc := wrap_nat (show n0 + (p.l.take j).countP (ms e l.list.l[k]) < 2 ^ 62 by omega)
      have ht : (p.l.take (j + 1)).countP (ms e l.list.l[k]) = (p.l.take j).countP (ms e l.list.l[k]) + if ms e l.list.l[k] p.l[j] = true then 1 else 0 := by
        rw [take_next h, List.countP_append, List.countP_singleton]
      refine ⟨h, (((n0 + (p.l.take (j + 1)).countP (ms e l.list.l[k]) : Nat) : Int), ((j + 1 : Nat) : Int)), ?_, rfl, rfl⟩
      simp only [L12_2_step, rd_nat hk, rd_nat h, Option.bind_some, hwr, hwc, ht]
      rw [if_pos (by rw [decide_eq_true_eq]; omega)]
      generalize (p.l.take j).countP (ms e l.list.l[k]) = c0
      unfold ms
      rcases h1 : (l.list.l[k]).node == (p.l[j]).item with _ | _
      · simp
      · rcases h2 : (l.list.l[k]).type_ == e.type_ with _ | _
        · simp
        · rcases h3 : (l.list.l[k]).capture with _ | _
          · rcases h4 : (p.l[j]).target == 0 with _ | _ <;> rcases h5 : e.bubbles with _ | _ <;> simp <;> omega
          · simp; omega
    · right
      obtain rfl : j = p.l.length := by omega
      refine ⟨_, ?_, rfl⟩
      simp only [L12_2_step, List.take_length]
      rw [if_neg (by simp)]) 0 ((n0 : Int), 0) (Nat.zero_le _) ⟨rfl, by simp⟩
  exact hr
theorem sum_le {p : List Step} {e : Event} (hpl : p.length ≤ 4096) : ∀ l : List Listener, (l.map fun x => p.countP (ms e x)).sum ≤ 4096 * l.length
  | [] => by simp
  | x :: l => by
    have := sum_le (e := e) hpl l
    have := Nat.le_trans (List.countP_le_length (p := ms e x) (l := p)) hpl
    simp only [List.map_cons, List.sum_cons, List.length_cons]
    omega
theorem tell_loop (l : Listeners) (p : Sl Step) (e : Event) (w : Sl Call × Listeners × Event × Bool × Int) (hpl : p.l.length ≤ 4096) (hl : l.list.l.length ≤ 1024) : loopV (L12_1_step l p e w) (0, 0) = some (((l.list.l.map fun x => p.l.countP (ms e x)).sum : Nat) : Int) := by
  obtain ⟨r, hr, rfl⟩ := loopV_upto (step := L12_1_step l p e w) l.list.l.length (fun j x => x.2 = (j : Int) ∧ x.1 = ((((l.list.l.take j).map fun x => p.l.countP (ms e x)).sum : Nat) : Int)) (fun r => r = (((l.list.l.map fun x => p.l.countP (ms e x)).sum : Nat) : Int)) (by
    rintro j ⟨a, b⟩ hj ⟨h1, h2⟩
    obtain rfl : b = (j : Int) := h1
    obtain rfl : a = ((((l.list.l.take j).map fun x => p.l.countP (ms e x)).sum : Nat) : Int) := h2
    by_cases h : j < l.list.l.length
    · left
      have hwr := wrap_nat (show j < 2 ^ 62 by omega)
      have hcl := sum_le (e := e) hpl (l.list.l.take j)
      rw [List.length_take] at hcl
      refine ⟨h, ((((l.list.l.take (j + 1)).map fun x => p.l.countP (ms e x)).sum : Nat), ((j + 1 : Nat) : Int)), ?_, rfl, rfl⟩
      simp only [L12_1_step]
      rw [if_pos (by rw [decide_eq_true_eq]; omega), steps_loop l p e w hpl _ (by omega) j h, Option.bind_some, hwr, take_next h, List.map_append, List.sum_append]
      simp
    · right
      obtain rfl : j = l.list.l.length := by omega
      refine ⟨_, ?_, rfl⟩
      simp only [L12_1_step, List.take_length]
      rw [if_neg (by simp)]) 0 (0, 0) (Nat.zero_le _) ⟨rfl, by simp⟩
  exact hr
theorem law_down (l : Listeners) (p : Sl Step) (e : Event) (clears : Bool) (ol : OkL l) (hn : p.n = true → p.l = []) (hl : p.l.length ≤ 2 ^ 31) : pc prog 12 [eListeners l, .list p.n (p.l.map eStep), eEvent e, .bool clears] = some (.bool true) := by
  refine ok12 l p e clears true ?_
  have oe : OkE ⟨true, []⟩ := ⟨by simp, by simp, by simp, by simp⟩
  have hall : dec (eT5 (eSl eCall) eListeners eEvent D.bool (D.int .i64)) (pc prog 50 [eListeners l, .list p.n (p.l.map eStep), eEvent e, .bool clears, .list true []]) = some (allD l p e clears []) := all_dec (es := ⟨true, []⟩) e clears ol hn hl oe
  obtain ⟨b, hb, hb2⟩ := distinct_spec p hl
  simp only [P12, begins_true, dec_one, Option.bind_some, hall, hb]
  rw [if_neg (by simp)]
  by_cases hw : allW l p e clears [] = 0
  · have hd : allD l p e clears [] = (⟨(allG l p e clears []).1.isEmpty, (allG l p e clears []).1⟩, (allG l p e clears []).2.1, (endP (allG l p e clears []).2.2).1, (endP (allG l p e clears []).2.2).2.1, 0) := by unfold allD; rw [if_pos hw]
    have tr := all_tr hw
    have hlen := all_len l p e clears []
    obtain ⟨hck, -, hpl, hbg⟩ := all_begun hw
    have hp := check_pair hck
    have hz : (allD l p e clears []).2.2.2.2 = 0 := by rw [hd]
    rw [hz]
    by_cases hst : e.stop = true ∨ e.stopNow = true
    · rw [if_neg (by rcases hst with h | h <;> simp [h])]
      rfl
    · have hs1 : e.stop = false := by rcases h : e.stop with _ | _; rfl; exact absurd (.inl h) hst
      have hs2 : e.stopNow = false := by rcases h : e.stopNow with _ | _; rfl; exact absurd (.inr h) hst
      rw [if_pos (by simp [hs1, hs2])]
      cases b
      · rw [if_pos (by simp)]; rfl
      · rw [if_neg (by simp)]
        have hpw := hb2 rfl
        have hasc := tr_asc tr (-1) 0 (by simp) (fun _ id hid => by simp at hid)
        have hcs : (allD l p e clears []).1.l = (allG l p e clears []).1 := by rw [hd]
        have h0 := asc_loop l p e (allD l p e clears []) ol hpl hp (by rw [hcs]; exact hlen) (allG l p e clears []).1 0 (-1) 0 (by rw [hcs]; rfl) hasc
        have hr0 := hbg
        have hcount := go_count (e := e) hp (distinct_of hpw) (8192 * 1025 + 1) l _ [] (show Inv l.list.l p.l e l ⟨{ e with dispatching := true, passive := false, phase := 0, current := 0 }, p, 0, ⟨true, []⟩, clears⟩ from
          ⟨rfl, rfl, rfl, rfl, rfl, Int.le_refl _, by simp only; omega, hpl, by simp, .inr rfl, List.Sublist.refl _, hck, by simp, List.Pairwise.nil⟩) hs1 hs2 (by simp only [mu, List.length_nil]; omega)
        rw [← hbg] at hcount
        have hfin : (allG l p e clears []).1.length = (l.list.l.map fun x => p.l.countP (ms e x)).sum := by
          rw [sum_count hpw]
          refine hcount.trans ?_
          rw [hbg]
          simp only [List.length_nil, Nat.zero_add]
          exact countP_eq fun x _ => by simp [wt]
        have h0' : loopV (L12_0_step l p e (allD l p e clears [])) (-1, 0, 0) = some (.inl ()) := h0
        rw [h0', Option.bind_some]
        simp only
        rw [tell_loop l p e _ hpl (check_len hck), Option.bind_some, hcs, hfin]
        simp
  · have hd : allD l p e clears [] = (⟨true, []⟩, .zero, .zero, false, allW l p e clears []) := by unfold allD; rw [if_neg hw]
    rw [hd, if_neg (by simp [hw])]
    simp
theorem lawDispatchDown (l : Listeners) (p : Sl Step) (e : Event) (clears : Bool) (o : Listeners.ok l) (o1 : Sl.ok (fun y => Step.ok y) p) (_ : Event.ok e) (_ : True) (hb : D.bulkAll [eListeners l, eSl eStep p, eEvent e, .bool clears] ≤ 1048576) : pc prog 12 [eListeners l, eSl eStep p, eEvent e, .bool clears] = some (.bool true) := by
  have h0 := len_bulkAll (l.list.l.map eListener)
  have h1 := len_bulkAll (p.l.map eStep)
  simp only [List.length_map] at h0 h1
  have hb' := hb
  simp only [eListeners, eSl, D.bulkAll, D.bulk] at hb'
  exact law_down l p e clears ⟨o.1.1, by omega⟩ o1.1 (by omega)
end Go.Proofs.Ytnijbejobbajfaa.D
