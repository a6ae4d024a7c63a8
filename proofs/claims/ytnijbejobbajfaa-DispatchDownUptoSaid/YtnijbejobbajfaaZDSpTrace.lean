/- Shaken copy of a longer text: what one law needs. Its conditions: none. -/
import Derived.Test.YtnijbejobbajfaaZDSpAlls2
set_option linter.unusedSimpArgs false
set_option linter.unusedVariables false
set_option linter.unusedSectionVars false
set_option linter.unnecessarySimpa false
namespace Go.Proofs.Ytnijbejobbajfaa.D
open Go.AI
theorem find_any (x : Listener) : ∀ (l : List Listener) (k : Int), 0 ≤ k → (0 ≤ find x l k ↔ l.any (alike x) = true)
  | [], k, _ => by simp [find]
  | y :: r, k, hk => by
    simp only [find, List.any_cons]
    cases alike x y
    · simpa using find_any x r (k + 1) (by omega)
    · simpa using hk
theorem chk_all {nx : Int} : ∀ (l pre : List Listener) (last : Int), chk nx pre last l = true → ∀ z ∈ l, last < z.id ∧ z.id < nx ∧ ∀ p ∈ pre, alike z p = false
  | [], _, _, _, z, hz => by cases hz
  | y :: r, pre, last, h, z, hz => by
    simp only [chk, Bool.and_eq_true] at h
    obtain ⟨ho, hr⟩ := h
    have hy : last < y.id ∧ y.id < nx ∧ ∀ p ∈ pre, alike y p = false := by
      simp only [okL, Bool.and_eq_true, decide_eq_true_eq] at ho
      obtain ⟨⟨⟨⟨⟨⟨o1, o2⟩, o3⟩, o4⟩, o5⟩, o6⟩, o7⟩ := ho
      refine ⟨o1, o2, fun p hp => ?_⟩
      have h0 : ¬ pre.any (alike y) = true := fun hh => by have := (find_any y pre 0 (by omega)).2 hh; omega
      simp only [List.any_eq_true, not_exists, not_and, Bool.not_eq_true] at h0
      exact h0 p hp
    rcases List.mem_cons.1 hz with rfl | hz
    · exact hy
    · obtain ⟨h1, h2, h3⟩ := chk_all r _ _ hr z hz
      exact ⟨by omega, h2, fun p hp => h3 p (by simp [hp])⟩
theorem chk_pair {nx : Int} : ∀ (l pre : List Listener) (last : Int), chk nx pre last l = true → l.Pairwise (fun a b => a.id < b.id)
  | [], _, _, _ => List.Pairwise.nil
  | y :: r, pre, last, h => by
    have h2 : chk nx (pre ++ [y]) y.id r = true := by simp only [chk, Bool.and_eq_true] at h; exact h.2
    exact List.Pairwise.cons (fun z hz => (chk_all _ _ _ h2 z hz).1) (chk_pair r _ _ h2)
theorem check_pair {l : Listeners} (hc : check l = 0) : l.list.l.Pairwise (fun a b => a.id < b.id) := by
  rcases check_chk hc with ⟨h, _⟩ | ⟨_, _, _, h⟩
  · rw [h]; exact List.Pairwise.nil
  · exact chk_pair _ _ _ h
theorem dueL_pair {l : List Listener} (h : l.Pairwise (fun a b => a.id < b.id)) (node : Int) (kind : List UInt8) (c : Bool) : (dueL node kind c l).Pairwise (· < ·) := by
  rw [dueL, List.pairwise_map]
  exact h.filter _
theorem chk_sub {nx nx' : Int} (hnx : nx ≤ nx') : ∀ (l pre : List Listener) (last : Int), chk nx pre last l = true → ∀ (l' pre' : List Listener) (last' : Int), l'.Sublist l → (∀ y ∈ pre', y ∈ pre) → last' ≤ last → chk nx' pre' last' l' = true
  | [], pre, last, _, l', pre', last', hs, _, _ => by rw [List.sublist_nil.1 hs]; rfl
  | x :: r, pre, last, h, l', pre', last', hs, hp, hl => by
    simp only [chk, Bool.and_eq_true] at h
    cases hs with
    | cons _ hs => exact chk_sub hnx r _ _ h.2 _ _ _ hs (fun y hy => List.mem_append_left _ (hp y hy)) (by
        have := h.1
        simp only [okL, right, Bool.and_eq_true, decide_eq_true_eq] at this
        omega)
    | cons_cons _ hs =>
      simp only [chk, Bool.and_eq_true]
      refine ⟨?_, chk_sub hnx r _ _ h.2 _ _ _ hs (fun y hy => ?_) (Int.le_refl _)⟩
      · have := h.1
        simp only [okL, Bool.and_eq_true, decide_eq_true_eq] at this ⊢
        obtain ⟨⟨⟨⟨⟨⟨o1, o2⟩, o3⟩, o4⟩, o5⟩, o6⟩, o7⟩ := this
        refine ⟨⟨⟨⟨⟨⟨by omega, by omega⟩, ?_⟩, o4⟩, o5⟩, o6⟩, o7⟩
        have hf : ¬ pre'.any (alike x) = true := by
          intro hh
          obtain ⟨y, hy, ha⟩ := List.any_eq_true.1 hh
          have := (find_any x pre 0 (by omega)).2 (List.any_eq_true.2 ⟨y, hp y hy, ha⟩)
          omega
        have := mt (find_any x pre' 0 (by omega)).1 hf
        omega
      · rcases List.mem_append.1 hy with hy | hy
        · exact List.mem_append_left _ (hp y hy)
        · exact List.mem_append_right _ hy
theorem check_exp {l : Listeners} (hc : check l = 0) (i : Int) : check (expire l i).1 = 0 := by
  have hn := next_ge hc
  have hm := max_next hc
  unfold expire
  rw [if_pos hc]
  have hle := List.length_filter_le (fun x : Listener => !(x.id == i)) l.list.l
  rw [check_next] at hc ⊢
  split at hc
  · cases hc
  · rename_i hb
    split at hc
    · rename_i hk
      have hnn : next ⟨some_ (l.list.l.filter fun x => !(x.id == i)), next l⟩ = next l := by
        show (if (next l == 0 && _) = true then 1 else next l) = next l
        rw [if_neg (by simp; omega)]
      rw [hnn, if_neg (by simp only [some_]; omega)]
      have := chk_sub (Int.le_refl _) _ _ _ hk (l.list.l.filter fun x => !(x.id == i)) [] 0 List.filter_sublist (by simp) (Int.le_refl _)
      simp only [some_, this, if_true]
    · cases hc
def Hit (p : List Step) (e : Event) (t : Int) (x : Listener) : Prop := ∃ (k : Nat) (hk : k < p.length) (c : Bool), placeP p.length t = ((k : Int), c) ∧ x.node = p[k].item ∧ x.type_ = e.type_ ∧ x.capture = c
structure Inv (a0 : List Listener) (p : List Step) (e : Event) (l : Listeners) (r : Run) : Prop where
  path : r.path.l = p
  ty : r.event.type_ = e.type_
  bub : r.event.bubbles = e.bubbles
  can : r.event.cancelable = e.cancelable
  disp : r.event.dispatching = true
  t0 : 0 ≤ r.turn
  t1 : r.turn ≤ 2 * p.length
  pl : p.length ≤ 4096
  dl : r.due.l.length ≤ 1024
  first : 0 < r.turn ∨ r.due.l = []
  sub : l.list.l.Sublist a0
  ck : check l = 0
  due : ∀ id ∈ r.due.l, ∃ x ∈ a0, x.id = id ∧ Hit p e (r.turn - 1) x
  asc : r.due.l.Pairwise (· < ·)
theorem Inv.right {a0 : List Listener} {p : List Step} {e : Event} {l : Listeners} {r : Run} (h : Inv a0 p e l r) : rightP r = true := by
  simp only [rightP, h.disp, h.path, Bool.and_eq_true, decide_eq_true_eq, Bool.or_eq_true, beq_iff_eq]
  refine ⟨⟨⟨⟨⟨h.pl, trivial⟩, h.t0⟩, h.t1⟩, ?_⟩, h.dl⟩
  rcases h.first with h | h
  · exact .inl h
  · exact .inr (by rw [h]; rfl)
structure Keeps (r r' : Run) : Prop where
  stop : r'.event.stop = r.event.stop
  now : r'.event.stopNow = r.event.stopNow
  canc : r'.event.canceled = r.event.canceled
  clears : r'.clears = r.clears
structure Went (a0 : List Listener) (p : List Step) (e : Event) (l : Listeners) (r : Run) (m : Listeners) (c : Call) (x : Listener) (r' : Run) : Prop where
  inv : Inv a0 p e m r'
  keeps : Keeps r r'
  mem : x ∈ l.list.l
  id : x.id = c.id
  cb : c.callback = x.callback
  hit : Hit p e (r'.turn - 1) x
  step : c.step = (placeP p.length (r'.turn - 1)).1
  left : m = if x.once = true then (expire l c.id).1 else l
  pass : r'.event.passive = (x.passive == 1)
  turn : r.turn ≤ r'.turn
  pos : 0 < r'.turn
  same : r'.turn = r.turn → ∃ pre, r.due.l = pre ++ c.id :: r'.due.l
  asc : ∀ i ∈ r'.due.l, c.id < i
  go : r.turn < r'.turn → r.event.stop = false
theorem byP_some {l : List Listener} {id : Int} {x : Listener} (h : byP l id = some x) : x ∈ l ∧ x.id = id := by
  unfold byP at h
  exact ⟨List.mem_of_find?_eq_some h, by simpa using List.find?_some h⟩
theorem callP_was (l : Listeners) (r : Run) : ∀ d, (callP l r d = ({ r with due := ⟨r.due.n, []⟩ }, none)) ∨ ∃ pre id x d', d = pre ++ id :: d' ∧ byP l.list.l id = some x ∧ callP l r d = ({ r with due := ⟨r.due.n, d'⟩, event := { r.event with passive := x.passive == 1 } }, some (calledP l r id x))
  | [] => .inl rfl
  | id :: d => by
    rcases hb : byP l.list.l id with _ | x
    · rcases callP_was l r d with h | ⟨pre, id', x, d', h1, h2, h3⟩
      · exact .inl (by simp only [callP, hb]; exact h)
      · exact .inr ⟨id :: pre, id', x, d', by rw [h1]; rfl, h2, by simp only [callP, hb]; exact h3⟩
    · exact .inr ⟨[], id, x, d, rfl, hb, by simp only [callP, hb]⟩
theorem due_eq {l : Listeners} (hc : check l = 0) (s : Step) (kind : List UInt8) (cap : Bool) : (due l s.item kind (phaseP s cap) cap).1.l = dueL s.item kind cap l.list.l := by
  unfold due phaseP
  rw [if_pos hc]
  by_cases ht : s.target = 0
  · simp only [if_pos ht]
    cases cap <;> simp
  · simp only [if_neg ht]
    simp
theorem expire_sub (l : Listeners) (i : Int) : (expire l i).1.list.l.Sublist l.list.l := by
  unfold expire
  split
  · exact List.filter_sublist
  · exact List.nil_sublist _
theorem uniq {a0 : List Listener} (hp : a0.Pairwise (fun a b => a.id < b.id)) {x y : Listener} (hx : x ∈ a0) (hy : y ∈ a0) (h : x.id = y.id) : x = y := by
  induction hp with
  | nil => cases hx
  | cons h1 _ ih =>
    rcases List.mem_cons.1 hx with e1 | hx' <;> rcases List.mem_cons.1 hy with e2 | hy'
    · rw [e1, e2]
    · have := h1 _ hy'; rw [e1] at h; omega
    · have := h1 _ hx'; rw [e2] at h; omega
    · exact ih hx' hy'
theorem turn_inv {a0 : List Listener} {p : List Step} {e : Event} {l : Listeners} {r : Run} (h : Inv a0 p e l r) (hd : r.due.l = []) (ht : r.turn < 2 * p.length) : Inv a0 p e l (turnP l r) ∧ Keeps r (turnP l r) ∧ (turnP l r).turn = r.turn + 1 ∧ (r.event.stop = true → (turnP l r).due.l = []) := by
  have hp := h.path
  obtain ⟨k, c, hk, hpl⟩ := place_nat (n := r.path.l.length) (t := r.turn) h.t0 (by rw [hp]; exact ht)
  rw [turnP_of hk hpl]
  unfold turnAt
  have hpair := check_pair h.ck
  split
  · exact ⟨⟨h.path, h.ty, h.bub, h.can, h.disp, by have := h.t0; simp only; omega, by simp only; omega, h.pl, by simp [hd], .inr hd, h.sub, h.ck, by simp [hd], by simp [hd]⟩, ⟨rfl, rfl, rfl, rfl⟩, rfl, fun _ => hd⟩
  · rename_i hst
    have hdl : (due l (r.path.l[k]).item r.event.type_ (phaseP r.path.l[k] c) c).1.l = dueL (r.path.l[k]).item r.event.type_ c l.list.l := due_eq h.ck _ _ _
    refine ⟨⟨h.path, h.ty, h.bub, h.can, h.disp, by have := h.t0; simp only; omega, by simp only; omega, h.pl, ?_, .inl (by have := h.t0; simp only; omega), h.sub, h.ck, ?_, ?_⟩, ⟨rfl, rfl, rfl, rfl⟩, rfl, fun hs => absurd (by simp [stayP, hs]) hst⟩
    · have := due_len l (r.path.l[k]).item r.event.type_ (phaseP r.path.l[k] c) c
      have := check_len h.ck
      simp only; omega
    · intro id hid
      simp only [hdl] at hid
      simp only [dueL, List.mem_map, List.mem_filter, Bool.and_eq_true, beq_iff_eq] at hid
      obtain ⟨x, ⟨hx, ⟨h1, h2⟩, h3⟩, h4⟩ := hid
      refine ⟨x, h.sub.subset hx, h4, k, by rw [← hp]; exact hk, c, ?_, ?_, by rw [h2, h.ty], h3⟩
      · show placeP p.length (r.turn + 1 - 1) = _
        rw [show r.turn + 1 - 1 = r.turn by omega, ← hp]; exact hpl
      · rw [h1]; simp only [hp]
    · simp only [hdl]
      exact dueL_pair hpair _ _ _
theorem call_inv {a0 : List Listener} (ha : a0.Pairwise (fun a b => a.id < b.id)) {p : List Step} {e : Event} {l : Listeners} {r : Run} (h : Inv a0 p e l r) {pre d' : List Int} {id : Int} {x : Listener} (hd : r.due.l = pre ++ id :: d') (hb : byP l.list.l id = some x) :
    Went a0 p e l r (calledP l r id x).1 (calledP l r id x).2 x { r with due := ⟨r.due.n, d'⟩, event := { r.event with passive := x.passive == 1 } } := by
  obtain ⟨hx, hid⟩ := byP_some hb
  have h0 : 0 < r.turn := by
    rcases h.first with h | h
    · exact h
    · rw [h] at hd; simp at hd
  have hasc := h.asc
  rw [hd] at hasc
  have hasc2 := (List.pairwise_append.1 hasc).2.1
  obtain ⟨y, hy, hyi, hh⟩ := h.due id (by rw [hd]; simp)
  have hxy : x = y := uniq ha (h.sub.subset hx) hy (by rw [hid, hyi])
  have hm : (calledP l r id x).1.list.l.Sublist l.list.l ∧ check (calledP l r id x).1 = 0 := by
    unfold calledP
    simp only
    split
    · exact ⟨expire_sub l id, check_exp h.ck id⟩
    · exact ⟨List.Sublist.refl _, h.ck⟩
  have hlen := h.dl
  rw [hd] at hlen
  simp only [List.length_append, List.length_cons] at hlen
  refine ⟨⟨h.path, h.ty, h.bub, h.can, h.disp, h.t0, h.t1, h.pl, by simp only; omega, .inl h0, hm.1.trans h.sub, hm.2, fun i hi => h.due i (by rw [hd]; simp only [List.mem_append, List.mem_cons]; exact .inr (.inr hi)), hasc2.of_cons⟩, ⟨rfl, rfl, rfl, rfl⟩, hx, hid, rfl, hxy ▸ hh, ?_, rfl, rfl, Int.le_refl _, h0, fun _ => ⟨pre, hd⟩, fun i hi => List.rel_of_pairwise_cons hasc2 hi, fun hh => absurd hh (Int.lt_irrefl _)⟩
  simp only [calledP, h.path]
theorem Keeps.trans {a b c : Run} (h : Keeps a b) (g : Keeps b c) : Keeps a c := ⟨g.stop.trans h.stop, g.now.trans h.now, g.canc.trans h.canc, g.clears.trans h.clears⟩
theorem nextP_inv {a0 : List Listener} (ha : a0.Pairwise (fun a b => a.id < b.id)) {p : List Step} {e : Event} {l : Listeners} : ∀ (n : Nat) (r : Run), Inv a0 p e l r → r.turn + n = 2 * p.length →
    ((nextP l n r).2 = none → Inv a0 p e l (nextP l n r).1 ∧ Keeps r (nextP l n r).1 ∧ (nextP l n r).1.turn = 2 * p.length ∧ (nextP l n r).1.due.l = []) ∧
    (∀ m c, (nextP l n r).2 = some (m, c) → ∃ x, Went a0 p e l r m c x (nextP l n r).1)
  | n, r, h, hn => by
    rcases callP_was l r r.due.l with hc | ⟨pre, id, x, d', hd, hb, hc⟩
    · have hi : Inv a0 p e l { r with due := ⟨r.due.n, []⟩ } := ⟨h.path, h.ty, h.bub, h.can, h.disp, h.t0, h.t1, h.pl, by simp, .inr rfl, h.sub, h.ck, by simp, List.Pairwise.nil⟩
      cases n with
      | zero =>
        simp only [nextP, hc]
        exact ⟨fun _ => ⟨hi, ⟨rfl, rfl, rfl, rfl⟩, by show r.turn = _; omega, trivial⟩, fun m c hh => (nomatch hh)⟩
      | succ n =>
        simp only [nextP, hc]
        obtain ⟨t1, t2, t3, t4⟩ := turn_inv hi rfl (show r.turn < _ by omega)
        have hk0 : Keeps r { r with due := ⟨r.due.n, []⟩ } := ⟨rfl, rfl, rfl, rfl⟩
        obtain ⟨n1, n2⟩ := nextP_inv ha n _ t1 (by rw [t3]; show r.turn + 1 + _ = _; omega)
        refine ⟨fun hh => ?_, fun m c hh => ?_⟩
        · obtain ⟨q1, q2, q3, q4⟩ := n1 hh
          exact ⟨q1, (hk0.trans t2).trans q2, q3, q4⟩
        · obtain ⟨x, w⟩ := n2 m c hh
          have hlt : r.turn < (nextP l n (turnP l { r with due := ⟨r.due.n, []⟩ })).1.turn := by
            have := w.turn
            rw [t3] at this
            simp only at this
            omega
          refine ⟨x, w.inv, (hk0.trans t2).trans w.keeps, w.mem, w.id, w.cb, w.hit, w.step, w.left, w.pass, by omega, w.pos, fun he => absurd he (by omega), w.asc, fun _ => ?_⟩
          rcases hs : r.event.stop with _ | _
          · rfl
          · have hdn := t4 hs
            by_cases he : (nextP l n (turnP l { r with due := ⟨r.due.n, []⟩ })).1.turn = (turnP l { r with due := ⟨r.due.n, []⟩ }).turn
            · obtain ⟨pre, hp⟩ := w.same he
              rw [hdn] at hp
              simp at hp
            · have := w.go (by have := w.turn; omega)
              rw [t2.stop] at this
              exact absurd this (by simp [hs])
    · have w := call_inv ha h hd hb
      cases n with
      | zero =>
        simp only [nextP, hc]
        exact ⟨fun hh => (nomatch hh), fun m c hh => by cases hh; exact ⟨x, w⟩⟩
      | succ n =>
        simp only [nextP, hc]
        exact ⟨fun hh => (nomatch hh), fun m c hh => by cases hh; exact ⟨x, w⟩⟩
end Go.Proofs.Ytnijbejobbajfaa.D
