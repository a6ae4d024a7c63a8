/- Shaken copy of a longer text: what one law needs. Its conditions: none. -/
import Derived.Test.YtnijbejobbajfaaZDSpStopped
set_option linter.unusedSimpArgs false
set_option linter.unusedVariables false
set_option linter.unusedSectionVars false
set_option linter.unnecessarySimpa false
namespace Go.Proofs.Ytnijbejobbajfaa.D
open Go.AI
theorem tr_end {es : List Effects} {a0 : List Listener} {p : List Step} {e : Event} {l l' : Listeners} {r r' : Run} {cs : List Call} (h : Tr es a0 p e l r cs l' r') : Inv a0 p e l' r' ∧ r'.turn = 2 * p.length ∧ r'.due.l = [] ∧ r'.clears = r.clears := by
  induction h with
  | nil _ h2 k h3 h4 => exact ⟨h2, h3, h4, k.clears⟩
  | cons hi w _ ih => exact ⟨ih.1, ih.2.1, ih.2.2.1, ih.2.2.2.trans w.keeps.clears⟩
def prevF (es : List Effects) (a0 : List Listener) (e : Event) (b : Bool) (c : Call) : Bool := b || (((doesL es c.callback).any fun d => d == 3) && e.cancelable && !((byP a0 c.id).getD .zero).passive == 1)
theorem tr_canc {es : List Effects} {a0 : List Listener} (ha : a0.Pairwise (fun a b => a.id < b.id)) {p : List Step} {e : Event} {l l' : Listeners} {r r' : Run} {cs : List Call} (h : Tr es a0 p e l r cs l' r') : r'.event.canceled = cs.foldl (prevF es a0 e) r.event.canceled := by
  induction h with
  | nil _ _ k _ _ => exact k.canc
  | @cons l m l' r r' r'' c x cs hi w _ ih =>
    have g := acted (doesL es c.callback) r'.event
    have hb : byP a0 c.id = some x := w.id ▸ byP_of ha (hi.sub.subset w.mem)
    rw [ih, List.foldl_cons]
    refine congrArg (fun b => cs.foldl (prevF es a0 e) b) ?_
    show ((doesL es c.callback).foldl actE r'.event).canceled = _
    rw [g.canc, w.keeps.canc, w.inv.can, w.pass]
    show _ = prevF es a0 e r.event.canceled c
    unfold prevF
    rw [hb]
    rfl
theorem end_of {p : List Step} {r : Run} {a0 : List Listener} {e : Event} {l : Listeners} (h : Inv a0 p e l r) (ht : r.turn = 2 * p.length) (hd : r.due.l = []) : (endP r).2.1 = (!r.event.canceled) ∧ (endP r).1.canceled = r.event.canceled ∧ (r.clears = true → (endP r).1.target = 0 ∧ (endP r).1.related = 0) := by
  have he : endedP r = true := by
    unfold endedP
    rw [h.right, h.path, ht, hd]
    simp
  unfold endP
  rw [if_pos he]
  refine ⟨rfl, ?_, fun hc => ?_⟩
  · simp only
    split <;> rfl
  · simp only [hc, if_true]
    exact ⟨trivial, trivial⟩
theorem law_prevented (l : Listeners) (p : Sl Step) (e : Event) (clears : Bool) (es : Sl Effects) (ol : OkL l) (hn : p.n = true → p.l = []) (hl : p.l.length ≤ 2 ^ 31) (oe : OkE es) : pc prog 14 [eListeners l, .list p.n (p.l.map eStep), eEvent e, .bool clears, .list es.n (es.l.map eEffects)] = some (.bool true) := by
  refine ok14 l p e clears es true ?_
  simp only [P14, begins_true, dec_one, Option.bind_some, all_dec e clears ol hn hl oe]
  rw [if_neg (by simp)]
  by_cases hw : allW l p e clears es.l = 0
  · have hd : allD l p e clears es.l = (⟨(allG l p e clears es.l).1.isEmpty, (allG l p e clears es.l).1⟩, (allG l p e clears es.l).2.1, (endP (allG l p e clears es.l).2.2).1, (endP (allG l p e clears es.l).2.2).2.1, 0) := by unfold allD; rw [if_pos hw]
    have tr := all_tr hw
    have hlen := all_len l p e clears es.l
    have hp := check_pair (all_begun hw).1
    rw [hd]
    generalize (allG l p e clears es.l).1 = cs at *
    generalize (allG l p e clears es.l).2.1 = l' at *
    generalize (allG l p e clears es.l).2.2 = r' at *
    have hm := tr_mem tr
    have hcn := tr_canc hp tr
    obtain ⟨t1, t2, t3, t4⟩ := tr_end tr
    obtain ⟨e1, e2, e3⟩ := end_of t1 t2 t3
    generalize hw0 : ((⟨cs.isEmpty, cs⟩, l', (endP r').1, (endP r').2.1, 0) : Sl Call × Listeners × Event × Bool × Int) = w
    have hwl : w.1.l = cs := by rw [← hw0]
    have hwe : w.2.2.1 = (endP r').1 := by rw [← hw0]
    have hwb : w.2.2.2.1 = (endP r').2.1 := by rw [← hw0]
    have hwz : w.2.2.2.2 = 0 := by rw [← hw0]
    have h0 : loopV (L14_0_step l e clears es w) (e.canceled, 0) = some (.inl r'.event.canceled) := by
      have hfl : loopV (fun x : Bool × Int => (L14_0_step l e clears es w x)) (e.canceled, 0) = some (.inl (cs.foldl (prevF es.l l.list.l e) e.canceled)) := by
        obtain ⟨r, hr, rfl⟩ := loopV_upto (step := L14_0_step l e clears es w) cs.length (fun k x => x.2 = (k : Int) ∧ (cs.drop k).foldl (prevF es.l l.list.l e) x.1 = cs.foldl (prevF es.l l.list.l e) e.canceled) (fun r => r = .inl (cs.foldl (prevF es.l l.list.l e) e.canceled)) (by
          rintro k ⟨b, x⟩ hk ⟨hx, hF⟩
          obtain rfl : x = (k : Int) := hx
          have hwr := wrap_nat (show k < 2 ^ 62 by omega)
          by_cases h : k < cs.length
          · left
            rw [List.drop_eq_getElem_cons h, List.foldl_cons] at hF
            refine ⟨h, (prevF es.l l.list.l e b cs[k], ((k + 1 : Nat) : Int)), ?_, rfl, hF⟩
            obtain ⟨x, hx, ix, -⟩ := hm _ (List.getElem_mem h)
            have bx : byP l.list.l (cs[k]).id = some x := ix ▸ byP_of hp hx
            simp only [L14_0_step, hwl, hwr, rd_nat h, Option.bind_some, stops_spec es oe, by_law l _ ol.len, dec_one, dec_t2, bx, prevF, Option.getD_some, Option.isSome_some]
            rw [if_pos (by rw [decide_eq_true_eq]; omega), if_neg (by simp)]
            cases b <;> cases e.cancelable <;> rcases x.passive == 1 with _ | _ <;> rcases ((doesL es.l (cs[k]).callback).any fun d => d == 3) with _ | _ <;> rfl
          · right
            obtain rfl : k = cs.length := by omega
            rw [List.drop_length] at hF
            refine ⟨.inl b, ?_, by rw [← hF]; rfl⟩
            simp only [L14_0_step, hwl]
            rw [if_neg (by simp)]) 0 (e.canceled, 0) (Nat.zero_le _) ⟨rfl, by simp⟩
        exact hr
      rw [hcn]
      exact hfl
    rw [hwz, hwe, hwb, e1, e2]
    rw [if_neg (by simp), h0, Option.bind_some]
    simp only
    rw [if_pos (by simp)]
    by_cases hc : clears = true
    · obtain ⟨c1, c2⟩ := e3 (by rw [t4]; exact hc)
      rw [if_pos hc, c1, c2]
      rfl
    · rw [if_neg hc]
  · have hd : allD l p e clears es.l = (⟨true, []⟩, .zero, .zero, false, allW l p e clears es.l) := by unfold allD; rw [if_neg hw]
    rw [hd, if_pos (by simp [hw])]
    rfl
theorem lawDispatchPrevented (l : Listeners) (p : Sl Step) (e : Event) (clears : Bool) (es : Sl Effects) (o : Listeners.ok l) (o1 : Sl.ok (fun y => Step.ok y) p) (_ : Event.ok e) (_ : True) (o4 : Sl.ok (fun y => Effects.ok y) es) (hb : D.bulkAll [eListeners l, eSl eStep p, eEvent e, .bool clears, eSl eEffects es] ≤ 1048576) : pc prog 14 [eListeners l, eSl eStep p, eEvent e, .bool clears, eSl eEffects es] = some (.bool true) := by
  obtain ⟨h1, h2, h3⟩ := bulks_all hb
  exact law_prevented l p e clears es ⟨o.1.1, by omega⟩ o1.1 (by omega) (okE_of o4 h3)
theorem expire_no (l : Listeners) (i : Int) : ∀ x ∈ (expire l i).1.list.l, x.id ≠ i := by
  unfold expire
  split
  · intro x hx
    simp only [some_, List.mem_filter] at hx
    intro he
    rw [he] at hx
    simp at hx
  · intro x hx
    cases hx
theorem gone_sub : ∀ (gs : List Int) (l : Listeners), (gs.foldl goneD l).list.l.Sublist l.list.l
  | [], _ => List.Sublist.refl _
  | g :: gs, l => (gone_sub gs (goneD l g)).trans (expire_sub l g)
theorem gone_no : ∀ (gs : List Int) (l : Listeners), ∀ i ∈ gs, ∀ x ∈ (gs.foldl goneD l).list.l, x.id ≠ i
  | g :: gs, l, i, hi, x, hx => by
    rcases List.mem_cons.1 hi with rfl | hi
    · exact expire_no l i x ((gone_sub gs (goneD l i)).subset hx)
    · exact gone_no gs (goneD l g) i hi x hx
theorem tr_in {es : List Effects} {a0 : List Listener} {p : List Step} {e : Event} {l l' : Listeners} {r r' : Run} {cs : List Call} (h : Tr es a0 p e l r cs l' r') : l'.list.l.Sublist l.list.l ∧ ∀ c ∈ cs, ∃ x ∈ l.list.l, x.id = c.id := by
  induction h with
  | nil => exact ⟨List.Sublist.refl _, fun c hc => by cases hc⟩
  | @cons l m l' r r' r'' c x cs hi w _ ih =>
    have hs : ((goneL es c.callback).foldl goneD m).list.l.Sublist l.list.l := by
      refine (gone_sub _ m).trans ?_
      rw [w.left]
      split
      · exact expire_sub _ _
      · exact List.Sublist.refl _
    refine ⟨ih.1.trans hs, fun d hd => ?_⟩
    rcases List.mem_cons.1 hd with rfl | hd
    · exact ⟨x, w.mem, w.id⟩
    · obtain ⟨y, hy, hy2⟩ := ih.2 d hd
      exact ⟨y, hs.subset hy, hy2⟩
def Later (es : List Effects) (a0 : List Listener) (c d : Call) : Prop := ((goneL es c.callback).any fun g => g == d.id) = false ∧ ∀ x ∈ a0, x.id = d.id → x.once = true → c.id ≠ d.id
theorem tr_later {es : List Effects} {a0 : List Listener} (ha : a0.Pairwise (fun a b => a.id < b.id)) {p : List Step} {e : Event} {l l' : Listeners} {r r' : Run} {cs : List Call} (h : Tr es a0 p e l r cs l' r') : cs.Pairwise (Later es a0) ∧ ∀ c ∈ cs, ∀ x ∈ a0, x.id = c.id → x.once = true → ∀ y ∈ l'.list.l, y.id ≠ c.id := by
  induction h with
  | nil => exact ⟨List.Pairwise.nil, fun c hc => by cases hc⟩
  | @cons l m l' r r' r'' c x cs hi w ht ih =>
    obtain ⟨i1, i2⟩ := tr_in ht
    have hno : x.once = true → ∀ y ∈ m.list.l, y.id ≠ c.id := by
      intro ho
      rw [w.left, if_pos ho]
      exact expire_no l c.id
    refine ⟨List.Pairwise.cons (fun d hd => ?_) ih.1, fun d hd z hz hzi hzo y hy => ?_⟩
    · obtain ⟨y, hy, hyi⟩ := i2 d hd
      refine ⟨?_, fun z hz hzi hzo he => ?_⟩
      · rcases hg : (goneL es c.callback).any (fun g => g == d.id) with _ | _
        · rfl
        · obtain ⟨g, hg1, hg2⟩ := List.any_eq_true.1 hg
          exact absurd (hyi.trans (by simpa using hg2 : g = d.id).symm) (gone_no _ m g hg1 y hy)
      · have hzx : z = x := uniq ha hz (hi.sub.subset w.mem) (by rw [hzi, w.id, he])
        exact hno (hzx ▸ hzo) y ((gone_sub _ m).subset hy) (by rw [hyi, he])
    · rcases List.mem_cons.1 hd with rfl | hd
      · have hzx : z = x := uniq ha hz (hi.sub.subset w.mem) (by rw [hzi, w.id])
        exact hno (hzx ▸ hzo) y ((gone_sub _ m).subset (i1.subset hy))
      · exact ih.2 d hd z hz hzi hzo y hy
theorem byP_none {l : List Listener} {id : Int} (h : ∀ x ∈ l, x.id ≠ id) : byP l id = none := by
  unfold byP
  rw [List.find?_eq_none]
  intro x hx
  simpa using h x hx
theorem law_once (l : Listeners) (p : Sl Step) (e : Event) (clears : Bool) (es : Sl Effects) (ol : OkL l) (hn : p.n = true → p.l = []) (hl : p.l.length ≤ 2 ^ 31) (oe : OkE es) : pc prog 15 [eListeners l, .list p.n (p.l.map eStep), eEvent e, .bool clears, .list es.n (es.l.map eEffects)] = some (.bool true) := by
  refine ok15 l p e clears es true ?_
  simp only [P15, begins_true, dec_one, Option.bind_some, all_dec e clears ol hn hl oe]
  rw [if_neg (by simp)]
  by_cases hw : allW l p e clears es.l = 0
  · have hd : allD l p e clears es.l = (⟨(allG l p e clears es.l).1.isEmpty, (allG l p e clears es.l).1⟩, (allG l p e clears es.l).2.1, (endP (allG l p e clears es.l).2.2).1, (endP (allG l p e clears es.l).2.2).2.1, 0) := by unfold allD; rw [if_pos hw]
    have tr := all_tr hw
    have hlen := all_len l p e clears es.l
    have hp := check_pair (all_begun hw).1
    rw [hd]
    generalize (allG l p e clears es.l).1 = cs at *
    generalize (allG l p e clears es.l).2.1 = l' at *
    generalize (allG l p e clears es.l).2.2 = r' at *
    have hm := tr_mem tr
    obtain ⟨hpw, hon⟩ := tr_later hp tr
    obtain ⟨hsub, -⟩ := tr_in tr
    have hle := hsub.length_le
    have hl' : l'.list.l.length ≤ 2 ^ 31 := Nat.le_trans hle ol.len
    generalize hw0 : ((⟨cs.isEmpty, cs⟩, l', (endP r').1, (endP r').2.1, 0) : Sl Call × Listeners × Event × Bool × Int) = w
    have hwl : w.1.l = cs := by rw [← hw0]
    have hwm : w.2.1 = l' := by rw [← hw0]
    have hwz : w.2.2.2.2 = 0 := by rw [← hw0]
    have h1 : ∀ k (hk : k < cs.length), ∀ x ∈ l.list.l, x.id = (cs[k]).id → loopV (L15_1_step l es w (k : Int) (x, true)) 0 = some (.inl ()) := by
      intro k hk x hx ix
      obtain ⟨r, hr, rfl⟩ := loopV_upto (step := L15_1_step l es w (k : Int) (x, true)) k (fun j y => y = (j : Int)) (fun r => r = .inl ()) (by
        rintro j y hj rfl
        have hwr := wrap_nat (show j < 2 ^ 62 by omega)
        by_cases h : j < k
        · left
          refine ⟨h, ((j + 1 : Nat) : Int), ?_, rfl⟩
          have hj' : j < cs.length := by omega
          obtain ⟨q1, q2⟩ := List.pairwise_iff_getElem.1 hpw j k hj' hk h
          simp only [L15_1_step, hwl, hwr, rd_nat hj', rd_nat hk, Option.bind_some, gone_spec es oe, dec_one, q1]
          rw [if_pos (by rw [decide_eq_true_eq]; omega)]
          rcases ho : x.once with _ | _
          · rw [if_neg (by simp), if_neg (by simp)]
          · have hne := q2 x hx ix ho
            rw [if_pos (by simp), if_pos (by simpa using hne), if_neg (by simp)]
        · right
          obtain rfl : j = k := by omega
          refine ⟨.inl (), ?_, rfl⟩
          simp only [L15_1_step]
          rw [if_neg (by simp)]) 0 0 (Nat.zero_le _) rfl
      exact hr
    have h0 : loopV (L15_0_step l es w) 0 = some (.inl ()) := by
      obtain ⟨r, hr, rfl⟩ := loopV_upto (step := L15_0_step l es w) cs.length (fun k x => x = (k : Int)) (fun r => r = .inl ()) (by
        rintro k x hk rfl
        have hwr := wrap_nat (show k < 2 ^ 62 by omega)
        by_cases h : k < cs.length
        · left
          refine ⟨h, ((k + 1 : Nat) : Int), ?_, rfl⟩
          obtain ⟨x, hx, ix, -⟩ := hm _ (List.getElem_mem h)
          have bx : byP l.list.l (cs[k]).id = some x := ix ▸ byP_of hp hx
          simp only [L15_0_step, hwl, hwm, hwr, rd_nat h, Option.bind_some, by_law l _ ol.len, by_law l' _ hl', dec_one, dec_t2, bx, Option.getD_some, Option.isSome_some, h1 k h x hx ix]
          rw [if_pos (by rw [decide_eq_true_eq]; omega), if_pos trivial]
          rcases ho : x.once with _ | _
          · rw [if_neg (by simp)]
          · have hno := byP_none (hon _ (List.getElem_mem h) x hx ix ho)
            rw [hno, if_neg (by simp)]
        · right
          obtain rfl : k = cs.length := by omega
          refine ⟨.inl (), ?_, rfl⟩
          simp only [L15_0_step, hwl]
          rw [if_neg (by simp)]) 0 0 (Nat.zero_le _) rfl
      exact hr
    rw [hwz]
    rw [if_neg (by simp), h0, Option.bind_some]
    simp only
    rw [decide_eq_true (by omega)]
  · have hd : allD l p e clears es.l = (⟨true, []⟩, .zero, .zero, false, allW l p e clears es.l) := by unfold allD; rw [if_neg hw]
    rw [hd, if_pos (by simp [hw])]
    rfl
theorem lawDispatchOnce (l : Listeners) (p : Sl Step) (e : Event) (clears : Bool) (es : Sl Effects) (o : Listeners.ok l) (o1 : Sl.ok (fun y => Step.ok y) p) (_ : Event.ok e) (_ : True) (o4 : Sl.ok (fun y => Effects.ok y) es) (hb : D.bulkAll [eListeners l, eSl eStep p, eEvent e, .bool clears, eSl eEffects es] ≤ 1048576) : pc prog 15 [eListeners l, eSl eStep p, eEvent e, .bool clears, eSl eEffects es] = some (.bool true) := by
  obtain ⟨h1, h2, h3⟩ := bulks_all hb
  exact law_once l p e clears es ⟨o.1.1, by omega⟩ o1.1 (by omega) (okE_of o4 h3)
end Go.Proofs.Ytnijbejobbajfaa.D
