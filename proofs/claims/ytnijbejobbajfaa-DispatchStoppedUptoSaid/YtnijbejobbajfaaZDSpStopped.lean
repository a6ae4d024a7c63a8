/- Shaken copy of a longer text: what one law needs. Its conditions: none. -/
import Derived.Test.YtnijbejobbajfaaZDSpTrace2
import Derived.Test.YtnijbejobbajfaaZDDecL
set_option linter.unusedSimpArgs false
set_option linter.unusedVariables false
set_option linter.unusedSectionVars false
set_option linter.unnecessarySimpa false
namespace Go.Proofs.Ytnijbejobbajfaa.D
open Go.AI
theorem byP_of {l : List Listener} (hp : l.Pairwise (fun a b => a.id < b.id)) {x : Listener} (hx : x ∈ l) : byP l x.id = some x := by
  rcases hb : byP l x.id with _ | y
  · unfold byP at hb
    have := List.find?_eq_none.1 hb x hx
    simp at this
  · obtain ⟨h1, h2⟩ := byP_some hb
    rw [uniq hp h1 hx h2]
theorem by_law (l : Listeners) (id : Int) (hl : l.list.l.length ≤ 2 ^ 31) : pc prog 54 [eListeners l, .int .i64 id] = some (.tuple [eListener ((byP l.list.l id).getD .zero), .bool (byP l.list.l id).isSome]) := by
  refine ok54 l id ((byP l.list.l id).getD .zero, (byP l.list.l id).isSome) ?_
  have h0 : loopV (L54_0_step l id) 0 = some (match l.list.l.findIdx? (fun x : Listener => x.id == id) with | some k => Sum.inr (l.list.l[k]!) | none => Sum.inl ()) := by
    refine find_loop (fun x : Listener => x.id == id) (fun k => Sum.inr (l.list.l[k]!)) (Sum.inl ()) ?_ ?_
    · intro k hk
      have hw := wrap_nat (show k < 2 ^ 62 by omega)
      have hget : l.list.l[k]! = l.list.l[k] := by simp [hk]
      simp only [L54_0_step, rd_nat hk, Option.bind_some, hw, hget]
      rw [if_pos (by simp; omega)]
      split <;> rfl
    · simp only [L54_0_step]
      rw [if_neg (by simp)]
  simp only [P54, h0, Option.bind_some]
  rcases hf : l.list.l.findIdx? (fun x : Listener => x.id == id) with _ | j
  · have hb : byP l.list.l id = none := by
      rw [List.findIdx?_eq_none_iff] at hf
      unfold byP
      rw [List.find?_eq_none]
      intro x hx
      simp [hf x hx]
    rw [hb]; rfl
  · obtain ⟨h1, h2, h3⟩ := List.findIdx?_eq_some_iff_getElem.1 hf
    have hb : byP l.list.l id = some l.list.l[j] := by
      unfold byP
      rw [List.find?_eq_some_iff_getElem]
      exact ⟨h2, j, h1, rfl, fun k hk => by simpa using h3 k hk⟩
    have hget : l.list.l[j]! = l.list.l[j] := by simp [h1]
    rw [hb]; simp only [hget]; rfl
theorem stops_spec (es : Sl Effects) (oe : OkE es) (cb eff : Int) : pc prog 55 [.list es.n (es.l.map eEffects), .int .i64 cb, .int .u8 eff] = some (.bool ((doesL es.l cb).any fun d => d == eff)) := by
  refine ok55 es cb eff _ ?_
  have h1 : ∀ k (hk : k < es.l.length), loopV (L55_1_step es eff (k : Int)) 0 = some (if ((es.l[k]).does.l.any fun d => d == eff) = true then Sum.inr () else Sum.inl ()) := by
    intro k hk
    refine any_loop (fun d => d == eff) (Sum.inr ()) (Sum.inl ()) ?_ ?_
    · intro j hj
      have hw := wrap_nat (show j < 2 ^ 62 by have := oe.does _ (List.getElem_mem hk); omega)
      simp only [L55_1_step, rd_nat hk, rd_nat hj, Option.bind_some, hw]
      rw [if_pos (by simp; omega)]
      split <;> rfl
    · simp only [L55_1_step, rd_nat hk, Option.bind_some]
      rw [if_neg (by simp)]
  have h0 : loopV (L55_0_step es cb eff) 0 = some (match es.l.findIdx? (fun e : Effects => e.callback == cb) with | some k => Sum.inr ((es.l[k]!).does.l.any fun d => d == eff) | none => Sum.inl ()) := by
    refine find_loop (fun e : Effects => e.callback == cb) (fun k => Sum.inr ((es.l[k]!).does.l.any fun d => d == eff)) (Sum.inl ()) ?_ ?_
    · intro k hk
      have hw := wrap_nat (show k < 2 ^ 62 by have := oe.n; omega)
      have hget : es.l[k]! = es.l[k] := by simp [hk]
      simp only [L55_0_step, rd_nat hk, Option.bind_some, hw, hget, h1 k hk]
      rw [if_pos (by simp; omega)]
      rcases (es.l[k]).callback == cb with _ | _ <;> rcases ((es.l[k]).does.l.any fun d => d == eff) with _ | _ <;> rfl
    · simp only [L55_0_step]
      rw [if_neg (by simp)]
  simp only [P55, h0, Option.bind_some, doesL]
  rcases es.l.findIdx? (fun e : Effects => e.callback == cb) with _ | k <;> rfl
theorem does_small {es : List Effects} (h : wrongP es = 0) (cb : Int) : ∀ d ∈ doesL es cb, d < 4 := by
  unfold wrongP at h
  split at h
  · cases h
  split at h
  · cases h
  split at h
  · cases h
  · rename_i hw
    intro d hd
    unfold doesL at hd
    rcases hf : es.findIdx? (fun e : Effects => e.callback == cb) with _ | k
    · rw [hf] at hd; cases hd
    · rw [hf] at hd
      obtain ⟨h1, -, -⟩ := List.findIdx?_eq_some_iff_getElem.1 hf
      have hget : es[k]! = es[k] := by simp [h1]
      simp only [hget] at hd
      by_cases h4 : 4 ≤ d
      · exact absurd (List.any_eq_true.2 ⟨es[k], List.getElem_mem h1, List.any_eq_true.2 ⟨d, hd, by simpa using h4⟩⟩) hw
      · omega
theorem all_begun {l : Listeners} {p : Sl Step} {e : Event} {clears : Bool} {es : List Effects} (h : allW l p e clears es = 0) : check l = 0 ∧ wrongP es = 0 ∧ p.l.length ≤ 4096 ∧ (beginP p.n p.l e clears).1 = ⟨{ e with dispatching := true, passive := false, phase := 0, current := 0 }, p, 0, ⟨true, []⟩, clears⟩ := by
  unfold allW at h
  split at h
  · rename_i hb
    split at h
    · rename_i hc
      refine ⟨hc, h, ?_⟩
      unfold beginP at hb ⊢
      split at hb
      · cases hb
      · rename_i h1
        split at hb
        · cases hb
        · rename_i h2
          split at hb
          · cases hb
          · rename_i h3
            rw [if_neg h1, if_neg h2, if_neg h3]
            exact ⟨by omega, rfl⟩
    · rename_i hc; exact absurd h hc
  · rename_i hb; exact absurd h hb
theorem all_tr {l : Listeners} {p : Sl Step} {e : Event} {clears : Bool} {es : List Effects} (h : allW l p e clears es = 0) : Tr es l.list.l p.l e l ⟨{ e with dispatching := true, passive := false, phase := 0, current := 0 }, p, 0, ⟨true, []⟩, clears⟩ (allG l p e clears es).1 (allG l p e clears es).2.1 (allG l p e clears es).2.2 := by
  obtain ⟨h1, h2, h3, h4⟩ := all_begun h
  have hi : Inv l.list.l p.l e l ⟨{ e with dispatching := true, passive := false, phase := 0, current := 0 }, p, 0, ⟨true, []⟩, clears⟩ :=
    ⟨rfl, rfl, rfl, rfl, rfl, Int.le_refl _, by simp only; omega, h3, by simp, .inr rfl, List.Sublist.refl _, h1, by simp, List.Pairwise.nil⟩
  have hm : mu ⟨{ e with dispatching := true, passive := false, phase := 0, current := 0 }, p, 0, ⟨true, []⟩, clears⟩ < 8192 * 1025 + 1 := by
    simp only [mu, List.length_nil]; omega
  obtain ⟨cs, g1, g2⟩ := go_tr (es := es) (check_pair h1) (does_small h2) (8192 * 1025 + 1) l _ [] hi hm
  rw [← h4] at g1 g2
  have g1' : (allG l p e clears es).1 = cs := g1.trans (List.nil_append cs)
  rw [g1', ← h4]
  exact g2
theorem end_flags (r : Run) : (endP r).1.dispatching = false ∧ (endP r).1.stop = false ∧ (endP r).1.stopNow = false ∧ (endP r).1.passive = false ∧ (endP r).1.phase = 0 ∧ (endP r).1.current = 0 := by
  unfold endP
  split
  · simp only
    split <;> exact ⟨rfl, rfl, rfl, rfl, rfl, rfl⟩
  · exact ⟨rfl, rfl, rfl, rfl, rfl, rfl⟩
theorem all_dec {l : Listeners} {p : Sl Step} (e : Event) (clears : Bool) {es : Sl Effects} (ol : OkL l) (hn : p.n = true → p.l = []) (hl : p.l.length ≤ 2 ^ 31) (oe : OkE es) : dec (eT5 (eSl eCall) eListeners eEvent D.bool (D.int .i64)) (pc prog 50 [eListeners l, .list p.n (p.l.map eStep), eEvent e, .bool clears, .list es.n (es.l.map eEffects)]) = some (allD l p e clears es.l) := by rw [all_prg e clears ol hn hl oe]; exact dec_t5
theorem all_len (l : Listeners) (p : Sl Step) (e : Event) (clears : Bool) (es : List Effects) : (allG l p e clears es).1.length ≤ 2 ^ 31 := by
  have := goD_len es (8192 * 1025 + 1) l (beginP p.n p.l e clears).1 []
  exact Nat.le_trans this (by simp only [List.length_nil]; omega)
theorem law_stopped (l : Listeners) (p : Sl Step) (e : Event) (clears : Bool) (es : Sl Effects) (ol : OkL l) (hn : p.n = true → p.l = []) (hl : p.l.length ≤ 2 ^ 31) (oe : OkE es) : pc prog 13 [eListeners l, .list p.n (p.l.map eStep), eEvent e, .bool clears, .list es.n (es.l.map eEffects)] = some (.bool true) := by
  refine ok13 l p e clears es true ?_
  simp only [P13, begins_true, dec_one, Option.bind_some, all_dec e clears ol hn hl oe]
  rw [if_neg (by simp)]
  by_cases hw : allW l p e clears es.l = 0
  · have hd : allD l p e clears es.l = (⟨(allG l p e clears es.l).1.isEmpty, (allG l p e clears es.l).1⟩, (allG l p e clears es.l).2.1, (endP (allG l p e clears es.l).2.2).1, (endP (allG l p e clears es.l).2.2).2.1, 0) := by unfold allD; rw [if_pos hw]
    have tr := all_tr hw
    have hlen := all_len l p e clears es.l
    obtain ⟨f1, f2, f3, f4, f5, f6⟩ := end_flags (allG l p e clears es.l).2.2
    have hp := check_pair (all_begun hw).1
    rw [hd]
    generalize (allG l p e clears es.l).1 = cs at *
    generalize (allG l p e clears es.l).2.1 = l' at *
    generalize (allG l p e clears es.l).2.2 = r' at *
    have hm := tr_mem tr
    have hpr := tr_pairs tr
    generalize hw0 : ((⟨cs.isEmpty, cs⟩, l', (endP r').1, (endP r').2.1, 0) : Sl Call × Listeners × Event × Bool × Int) = w
    have hwl : w.1.l = cs := by rw [← hw0]
    have hwe : w.2.2.1 = (endP r').1 := by rw [← hw0]
    have hwz : w.2.2.2.2 = 0 := by rw [← hw0]
    have h0 : loopV (L13_0_step l e es w) 0 = some (.inl ()) := by
      obtain ⟨r, hr, rfl⟩ := loopV_upto (step := L13_0_step l e es w) cs.length (fun k x => x = (k : Int)) (fun r => r = .inl ()) (by
        rintro k x hk rfl
        have hwr := wrap_nat (show k < 2 ^ 62 by omega)
        by_cases h : k + 1 < cs.length
        · left
          refine ⟨by omega, ((k + 1 : Nat) : Int), ?_, rfl⟩
          have hk' : k < cs.length := by omega
          obtain ⟨p1, p2⟩ := hpr k h
          obtain ⟨x, hx, ix, -⟩ := hm _ (List.getElem_mem hk')
          obtain ⟨y, hy, iy, -⟩ := hm _ (List.getElem_mem h)
          have bx : byP l.list.l (cs[k]).id = some x := ix ▸ byP_of hp hx
          have by' : byP l.list.l (cs[k + 1]).id = some y := iy ▸ byP_of hp hy
          simp only [L13_0_step, hwl, hwr, rd_nat hk', rd_nat h, Option.bind_some, stops_spec es oe, by_law l _ ol.len, dec_one, dec_t2, bx, by', p1]
          rw [if_pos (by rw [decide_eq_true_eq]; omega), if_neg (by simp), if_pos (by simp)]
          rcases h1 : ((doesL es.l (cs[k]).callback).any fun d => d == 1) with _ | _
          · rfl
          · obtain ⟨q1, x', hx', y', hy', e1, e2, e3⟩ := p2 h1
            have ex : x' = x := uniq hp hx' hx (by rw [e1, ix])
            have ey : y' = y := uniq hp hy' hy (by rw [e2, iy])
            rw [if_pos rfl, if_neg (by simp [q1, ← ex, ← ey, e3])]
        · right
          refine ⟨.inl (), ?_, rfl⟩
          simp only [L13_0_step, hwl, hwr]
          rw [if_neg (by rw [decide_eq_true_eq]; omega)]) 0 0 (Nat.zero_le _) rfl
      exact hr
    rw [hwz, hwe, f1, f2, f3, f4, f5, f6]
    rw [if_neg (by simp), if_neg (by simp), h0, Option.bind_some, hwl]
    simp only
    rcases hs : e.stop with _ | _
    · rfl
    · have := tr_still tr hs (.inr rfl)
      rw [this]; rfl
  · have hd : allD l p e clears es.l = (⟨true, []⟩, .zero, .zero, false, allW l p e clears es.l) := by unfold allD; rw [if_neg hw]
    rw [hd, if_pos (by simp [hw])]
    rfl
theorem lawDispatchStopped (l : Listeners) (p : Sl Step) (e : Event) (clears : Bool) (es : Sl Effects) (o : Listeners.ok l) (o1 : Sl.ok (fun y => Step.ok y) p) (_ : Event.ok e) (_ : True) (o4 : Sl.ok (fun y => Effects.ok y) es) (hb : D.bulkAll [eListeners l, eSl eStep p, eEvent e, .bool clears, eSl eEffects es] ≤ 1048576) : pc prog 13 [eListeners l, eSl eStep p, eEvent e, .bool clears, eSl eEffects es] = some (.bool true) := by
  obtain ⟨h1, h2, h3⟩ := bulks_all hb
  exact law_stopped l p e clears es ⟨o.1.1, by omega⟩ o1.1 (by omega) (okE_of o4 h3)
end Go.Proofs.Ytnijbejobbajfaa.D
