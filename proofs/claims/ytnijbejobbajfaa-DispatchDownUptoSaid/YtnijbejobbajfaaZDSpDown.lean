/- Shaken copy of a longer text: what one law needs. Its conditions: none. -/
import Derived.Test.YtnijbejobbajfaaZDSpPrev
set_option linter.unusedSimpArgs false
set_option linter.unusedVariables false
set_option linter.unusedSectionVars false
set_option linter.unnecessarySimpa false
namespace Go.Proofs.Ytnijbejobbajfaa.D
open Go.AI
def mt (p : List Step) (e : Event) (x : Listener) (k : Nat) : Bool := x.node == (p[k]!).item && x.type_ == e.type_ && (x.capture || !((p[k]!).target == 0) || e.bubbles)
def turnOf (n k : Nat) (c : Bool) : Int := if c = true then (n : Int) - 1 - k else n + k
theorem place_of {n k : Nat} (hk : k < n) (c : Bool) : placeP n (turnOf n k c) = ((k : Int), c) := by
  unfold placeP turnOf
  cases c
  · simp only [Bool.false_eq_true, if_false]
    rw [if_neg (by omega)]
    exact Prod.ext (by simp only; omega) rfl
  · simp only [if_true]
    rw [if_pos (by omega)]
    exact Prod.ext (by simp only; omega) rfl
theorem of_place {n k : Nat} {c : Bool} {t : Int} (h0 : 0 ≤ t) (h1 : t < 2 * n) (h : placeP n t = ((k : Int), c)) : turnOf n k c = t := by
  unfold placeP at h
  unfold turnOf
  split at h
  · obtain ⟨a, b⟩ := Prod.mk.inj h
    rw [if_pos b.symm]; omega
  · obtain ⟨a, b⟩ := Prod.mk.inj h
    rw [if_neg (by rw [← b]; simp)]; omega
def late (p : List Step) (e : Event) (t : Int) (x : Listener) : Bool := (List.range p.length).any fun k => mt p e x k && decide (t ≤ turnOf p.length k x.capture)
def wt (p : List Step) (e : Event) (r : Run) (x : Listener) : Bool := r.due.l.contains x.id || late p e r.turn x
def Distinct (p : List Step) : Prop := ∀ i j (hi : i < p.length) (hj : j < p.length), (p[i]).item = (p[j]).item → i = j
theorem late_iff {p : List Step} {e : Event} {t : Int} {x : Listener} : late p e t x = true ↔ ∃ k, k < p.length ∧ mt p e x k = true ∧ t ≤ turnOf p.length k x.capture := by
  unfold late
  rw [List.any_eq_true]
  constructor
  · rintro ⟨k, hk, h⟩
    rw [Bool.and_eq_true, decide_eq_true_eq] at h
    exact ⟨k, List.mem_range.1 hk, h.1, h.2⟩
  · rintro ⟨k, hk, h1, h2⟩
    exact ⟨k, List.mem_range.2 hk, by rw [Bool.and_eq_true, decide_eq_true_eq]; exact ⟨h1, h2⟩⟩
theorem wt_turn {a0 : List Listener} {p : List Step} {e : Event} {l : Listeners} {r : Run} (h : Inv a0 p e l r) (hd : r.due.l = []) (ht : r.turn < 2 * p.length) (hs : r.event.stop = false) : ∀ x ∈ l.list.l, wt p e (turnP l r) x = wt p e r x := by
  intro x hx
  have hp := h.path
  obtain ⟨k0, c0, hk, hpl⟩ := place_nat (n := r.path.l.length) (t := r.turn) h.t0 (by rw [hp]; exact ht)
  have hk' : k0 < p.length := by rw [← hp]; exact hk
  have ht0 : turnOf p.length k0 c0 = r.turn := of_place h.t0 ht (by rw [← hp]; exact hpl)
  have hget : r.path.l[k0] = p[k0] := by simp only [hp]
  have hgb : p[k0]! = p[k0] := by simp [hk']
  have hpair := check_pair h.ck
  have hturn : (turnP l r).turn = r.turn + 1 := (turnP_path l r).2.1
  have hdue : (turnP l r).due.l.contains x.id = true ↔ (x.capture = c0 ∧ mt p e x k0 = true) := by
    rw [turnP_of hk hpl]
    unfold turnAt
    split
    · rename_i hst
      have hst' : c0 = false ∧ p[k0].target = 0 ∧ e.bubbles = false := by
        rw [hget] at hst
        simp only [stayP, hs, Bool.or_false, Bool.and_eq_true, beq_iff_eq, phaseP] at hst
        obtain ⟨s1, s2⟩ := hst
        by_cases hz : p[k0].target = 0
        · rw [if_pos hz] at s1
          cases c0
          · exact ⟨rfl, hz, by rw [← h.bub]; simpa using s2⟩
          · simp at s1
        · rw [if_neg hz] at s1; omega
      obtain ⟨s1, s2, s3⟩ := hst'
      constructor
      · intro hh; simp only [hd] at hh; cases hh
      · rintro ⟨m1, m2⟩
        simp only [mt, hgb, Bool.and_eq_true, s2, s3, m1, s1] at m2
        simp at m2
    · rename_i hst
      have hdl : (due l (r.path.l[k0]).item r.event.type_ (phaseP r.path.l[k0] c0) c0).1.l = dueL (r.path.l[k0]).item r.event.type_ c0 l.list.l := due_eq h.ck _ _ _
      have hb : (x.capture = c0) → (x.capture || !(p[k0].target == 0) || e.bubbles) = true := by
        intro hcap
        rw [hget] at hst
        simp only [stayP, hs, Bool.or_false, Bool.and_eq_true, beq_iff_eq, phaseP] at hst
        rw [hcap]
        cases c0
        · by_cases hz : p[k0].target = 0
          · rw [if_pos hz] at hst
            have : e.bubbles = true := by
              rw [← h.bub]
              rcases hq : r.event.bubbles with _ | _
              · exact absurd ⟨by simp, by rw [hq]; rfl⟩ hst
              · rfl
            rw [this]; simp
          · simp [hz]
        · simp
      simp only [hdl, List.contains_iff_mem]
      simp only [dueL, List.mem_map, List.mem_filter, Bool.and_eq_true, beq_iff_eq, hget, h.ty]
      constructor
      · rintro ⟨z, ⟨hz, ⟨z1, z2⟩, z3⟩, z4⟩
        have hzx : z = x := uniq hpair hz hx z4
        subst hzx
        refine ⟨z3, ?_⟩
        simp only [mt, hgb, Bool.and_eq_true, beq_iff_eq]
        exact ⟨⟨z1, z2⟩, hb z3⟩
      · rintro ⟨m1, m2⟩
        simp only [mt, hgb, Bool.and_eq_true, beq_iff_eq] at m2
        exact ⟨x, ⟨hx, ⟨m2.1.1, m2.1.2⟩, m1⟩, rfl⟩
  rw [Bool.eq_iff_iff]
  unfold wt
  rw [Bool.or_eq_true, Bool.or_eq_true, hdue, hd, hturn, late_iff, late_iff]
  constructor
  · rintro (⟨m1, m2⟩ | ⟨k, q1, q2, q3⟩)
    · exact .inr ⟨k0, hk', m2, by rw [m1, ht0]; exact Int.le_refl _⟩
    · exact .inr ⟨k, q1, q2, by omega⟩
  · rintro (hh | ⟨k, q1, q2, q3⟩)
    · cases hh
    · by_cases he : turnOf p.length k x.capture = r.turn
      · left
        have h1 := place_of q1 x.capture
        have h2 := place_of hk' c0
        rw [he] at h1
        rw [ht0] at h2
        obtain ⟨a, b⟩ := Prod.mk.inj (h1.symm.trans h2)
        have : k = k0 := by omega
        exact ⟨b, this ▸ q2⟩
      · exact .inr ⟨k, q1, q2, by omega⟩
theorem callP_first (l : Listeners) (r : Run) : ∀ d, ((∀ i ∈ d, byP l.list.l i = none) ∧ callP l r d = ({ r with due := ⟨r.due.n, []⟩ }, none)) ∨ ∃ pre id x d', d = pre ++ id :: d' ∧ (∀ i ∈ pre, byP l.list.l i = none) ∧ byP l.list.l id = some x ∧ callP l r d = ({ r with due := ⟨r.due.n, d'⟩, event := { r.event with passive := x.passive == 1 } }, some (calledP l r id x))
  | [] => .inl ⟨by simp, rfl⟩
  | id :: d => by
    rcases hb : byP l.list.l id with _ | x
    · rcases callP_first l r d with ⟨h0, h⟩ | ⟨pre, id', x, d', h1, h0, h2, h3⟩
      · exact .inl ⟨fun i hi => by rcases List.mem_cons.1 hi with rfl | hi; exact hb; exact h0 i hi, by simp only [callP, hb]; exact h⟩
      · exact .inr ⟨id :: pre, id', x, d', by rw [h1]; rfl, fun i hi => by rcases List.mem_cons.1 hi with rfl | hi; exact hb; exact h0 i hi, h2, by simp only [callP, hb]; exact h3⟩
    · exact .inr ⟨[], id, x, d, rfl, by simp, hb, by simp only [callP, hb]⟩
theorem byP_not {l : List Listener} {id : Int} (h : byP l id = none) : ∀ x ∈ l, x.id ≠ id := by
  unfold byP at h
  intro x hx he
  have := List.find?_eq_none.1 h x hx
  simp [he] at this
theorem wt_skip {p : List Step} {e : Event} {l : Listeners} {r : Run} (h : ∀ i ∈ r.due.l, byP l.list.l i = none) : ∀ x ∈ l.list.l, wt p e { r with due := ⟨r.due.n, []⟩ } x = wt p e r x := by
  intro x hx
  unfold wt
  have : r.due.l.contains x.id = false := by
    rcases hc : r.due.l.contains x.id with _ | _
    · rfl
    · exact absurd rfl (byP_not (h x.id (List.contains_iff_mem.1 hc)) x hx)
  rw [this]
  rfl
theorem countP_eq {l : List Listener} {f g : Listener → Bool} (h : ∀ x ∈ l, f x = g x) : l.countP f = l.countP g := List.countP_congr (fun x hx => by rw [h x hx])
theorem countP_one {l : List Listener} (hp : l.Pairwise (fun a b => a.id < b.id)) {x : Listener} (hx : x ∈ l) {f g : Listener → Bool} (hf : ∀ y ∈ l, f y = (decide (y.id = x.id) || g y)) (hg : g x = false) : l.countP f = l.countP g + 1 := by
  induction hp with
  | nil => cases hx
  | @cons y l h1 h2 ih =>
    rcases List.mem_cons.1 hx with rfl | hx'
    · have : l.countP f = l.countP g := countP_eq fun y hy => by
        rw [hf y (List.mem_cons_of_mem _ hy), decide_eq_false (by have := h1 y hy; omega)]; rfl
      rw [List.countP_cons, List.countP_cons, this, hf x List.mem_cons_self, hg]
      simp
    · have hne : decide (y.id = x.id) = false := decide_eq_false (by have := h1 x hx'; omega)
      rw [List.countP_cons, List.countP_cons, ih hx' (fun z hz => hf z (List.mem_cons_of_mem _ hz)), hf y List.mem_cons_self, hne]
      simp only [Bool.false_or]
      omega
theorem wt_call {a0 : List Listener} (ha : a0.Pairwise (fun a b => a.id < b.id)) {p : List Step} (hp : Distinct p) {e : Event} {l : Listeners} {r : Run} (h : Inv a0 p e l r) {pre d' : List Int} {id : Int} {x : Listener} (hd : r.due.l = pre ++ id :: d') (hpre : ∀ i ∈ pre, byP l.list.l i = none) (hb : byP l.list.l id = some x) (ev : Event) :
    l.list.l.countP (wt p e r) = (calledP l r id x).1.list.l.countP (wt p e { r with due := ⟨r.due.n, d'⟩, event := ev }) + 1 := by
  obtain ⟨hx, hid⟩ := byP_some hb
  have hpair := check_pair h.ck
  have hasc := h.asc
  rw [hd] at hasc
  have hasc2 := (List.pairwise_append.1 hasc).2.1
  obtain ⟨y, hy, hyi, hh⟩ := h.due id (by rw [hd]; simp)
  have hxy : x = y := uniq ha (h.sub.subset hx) hy (by rw [hid, hyi])
  subst hxy
  obtain ⟨k, hk, c, q1, q2, q3, q4⟩ := hh
  have h0 : 0 < r.turn := by
    rcases h.first with g | g
    · exact g
    · rw [g] at hd; simp at hd
  have htk : turnOf p.length k c = r.turn - 1 := of_place (by omega) (by have := h.t1; omega) q1
  have hgx : wt p e { r with due := ⟨r.due.n, d'⟩, event := ev } x = false := by
    unfold wt
    have h1 : d'.contains x.id = false := by
      rcases hc : d'.contains x.id with _ | _
      · rfl
      · have := List.rel_of_pairwise_cons hasc2 (List.contains_iff_mem.1 hc)
        rw [hid] at this; omega
    have h2 : late p e r.turn x = false := by
      rcases hc : late p e r.turn x with _ | _
      · rfl
      · obtain ⟨j, hj, m1, m2⟩ := late_iff.1 hc
        have hjb : p[j]! = p[j] := by simp [hj]
        simp only [mt, hjb, Bool.and_eq_true, beq_iff_eq] at m1
        have : j = k := hp j k hj hk (by rw [← m1.1.1, q2])
        subst this
        rw [q4, htk] at m2
        omega
    simp only [h1, h2, Bool.or_false]
  have hone : l.list.l.countP (wt p e r) = l.list.l.countP (wt p e { r with due := ⟨r.due.n, d'⟩, event := ev }) + 1 := by
    refine countP_one hpair hx (fun y hy => ?_) hgx
    unfold wt
    have : r.due.l.contains y.id = (decide (y.id = x.id) || d'.contains y.id) := by
      rw [Bool.eq_iff_iff, Bool.or_eq_true, List.contains_iff_mem, List.contains_iff_mem, decide_eq_true_eq, hd, List.mem_append, List.mem_cons, hid]
      constructor
      · rintro (hh | hh | hh)
        · exact absurd rfl (byP_not (hpre _ hh) y hy)
        · exact .inl hh
        · exact .inr hh
      · rintro (hh | hh)
        · exact .inr (.inl hh)
        · exact .inr (.inr hh)
    rw [this, Bool.or_assoc]
  rw [hone]
  congr 1
  unfold calledP
  simp only
  split
  · have he : (expire l id).1.list.l = l.list.l.filter fun z => !(z.id == id) := by unfold expire; rw [if_pos h.ck]; rfl
    rw [he, List.countP_filter]
    refine countP_eq fun y hy => ?_
    by_cases hyx : y.id = id
    · have : y = x := uniq hpair hy hx (by rw [hyx, hid])
      subst this
      rw [hgx]; rfl
    · simp [hyx]
  · rfl
end Go.Proofs.Ytnijbejobbajfaa.D
