/- Shaken copy of a longer text: what one law needs. Its conditions: none. -/
import Derived.Test.YtnijbejobbajfaaZDSpTrace2
import Derived.Test.YtnijbejobbajfaaZDDecL
set_option linter.unusedSimpArgs false
set_option linter.unusedVariables false
set_option linter.unusedSectionVars false
set_option linter.unnecessarySimpa false
namespace Go.Proofs.Ytnijbejobbajfaa.D
open Go.AI
theorem byP_of {l : List Listener} (hp : l.Pairwise (fun a b => a.id < b.id)) {x : Listener} (hx : x ∈ l) : byP l x.id = some x := by
  rcases hb : byP l x.id with _ | y
  · unfold byP at hb
    have := List.find?_eq_none.1 hb x hx
    simp at this
  · obtain ⟨h1, h2⟩ := byP_some hb
    rw [uniq hp h1 hx h2]
theorem by_law (l : Listeners) (id : Int) (hl : l.list.l.length ≤ 2 ^ 31) : pc prog 54 [eListeners l, .int .i64 id] = some (.tuple [eListener ((byP l.list.l id).getD .zero), .bool (byP l.list.l id).isSome]) := by
  refine ok54 l id ((byP l.list.l id).getD .zero, (byP l.list.l id).isSome) ?_
  have h0 : loopV (L54_0_step l id) 0 = some (match l.list.l.findIdx? (fun x : Listener => x.id == id) with | some k => Sum.inr (l.list.l[k]!) | none => Sum.inl ()) := by
    refine find_loop (fun x : Listener => x.id == id) (fun k => Sum.inr (l.list.l[k]!)) (Sum.inl ()) ?_ ?_
    · intro k hk
      have hw := wrap_nat (show k < 2 ^ 62 by omega)
      have hget : l.list.l[k]! = l.list.l[k] := by simp [hk]
      simp only [L54_0_step, rd_nat hk, Option.bind_some, hw, hget]
      rw [if_pos (by simp; omega)]
      split <;> rfl
    · simp only [L54_0_step]
      rw [if_neg (by simp)]
  simp only [P54, h0, Option.bind_some]
  rcases hf : l.list.l.findIdx? (fun x : Listener => x.id == id) with _ | j
  · have hb : byP l.list.l id = none := by
      rw [List.findIdx?_eq_none_iff] at hf
      unfold byP
      rw [List.find?_eq_none]
      intro x hx
      simp [hf x hx]
    rw [hb]; rfl
  · obtain ⟨h1, h2, h3⟩ := List.findIdx?_eq_some_iff_getElem.1 hf
    have hb : byP l.list.l id = some l.list.l[j] := by
      unfold byP
      rw [List.find?_eq_some_iff_getElem]
      exact ⟨h2, j, h1, rfl, fun k hk => by simpa using h3 k hk⟩
    have hget : l.list.l[j]! = l.list.l[j] := by simp [h1]
    rw [hb]; simp only [hget]; rfl
theorem does_small {es : List Effects} (h : wrongP es = 0) (cb : Int) : ∀ d ∈ doesL es cb, d < 4 := by
  unfold wrongP at h
  split at h
  · cases h
  split at h
  · cases h
  split at h
  · cases h
  · rename_i hw
    intro d hd
    unfold doesL at hd
    rcases hf : es.findIdx? (fun e : Effects => e.callback == cb) with _ | k
    · rw [hf] at hd; cases hd
    · rw [hf] at hd
      obtain ⟨h1, -, -⟩ := List.findIdx?_eq_some_iff_getElem.1 hf
      have hget : es[k]! = es[k] := by simp [h1]
      simp only [hget] at hd
      by_cases h4 : 4 ≤ d
      · exact absurd (List.any_eq_true.2 ⟨es[k], List.getElem_mem h1, List.any_eq_true.2 ⟨d, hd, by simpa using h4⟩⟩) hw
      · omega
theorem all_begun {l : Listeners} {p : Sl Step} {e : Event} {clears : Bool} {es : List Effects} (h : allW l p e clears es = 0) : check l = 0 ∧ wrongP es = 0 ∧ p.l.length ≤ 4096 ∧ (beginP p.n p.l e clears).1 = ⟨{ e with dispatching := true, passive := false, phase := 0, current := 0 }, p, 0, ⟨true, []⟩, clears⟩ := by
  unfold allW at h
  split at h
  · rename_i hb
    split at h
    · rename_i hc
      refine ⟨hc, h, ?_⟩
      unfold beginP at hb ⊢
      split at hb
      · cases hb
      · rename_i h1
        split at hb
        · cases hb
        · rename_i h2
          split at hb
          · cases hb
          · rename_i h3
            rw [if_neg h1, if_neg h2, if_neg h3]
            exact ⟨by omega, rfl⟩
    · rename_i hc; exact absurd h hc
  · rename_i hb; exact absurd h hb
theorem all_tr {l : Listeners} {p : Sl Step} {e : Event} {clears : Bool} {es : List Effects} (h : allW l p e clears es = 0) : Tr es l.list.l p.l e l ⟨{ e with dispatching := true, passive := false, phase := 0, current := 0 }, p, 0, ⟨true, []⟩, clears⟩ (allG l p e clears es).1 (allG l p e clears es).2.1 (allG l p e clears es).2.2 := by
  obtain ⟨h1, h2, h3, h4⟩ := all_begun h
  have hi : Inv l.list.l p.l e l ⟨{ e with dispatching := true, passive := false, phase := 0, current := 0 }, p, 0, ⟨true, []⟩, clears⟩ :=
    ⟨rfl, rfl, rfl, rfl, rfl, Int.le_refl _, by simp only; omega, h3, by simp, .inr rfl, List.Sublist.refl _, h1, by simp, List.Pairwise.nil⟩
  have hm : mu ⟨{ e with dispatching := true, passive := false, phase := 0, current := 0 }, p, 0, ⟨true, []⟩, clears⟩ < 8192 * 1025 + 1 := by
    simp only [mu, List.length_nil]; omega
  obtain ⟨cs, g1, g2⟩ := go_tr (es := es) (check_pair h1) (does_small h2) (8192 * 1025 + 1) l _ [] hi hm
  rw [← h4] at g1 g2
  have g1' : (allG l p e clears es).1 = cs := g1.trans (List.nil_append cs)
  rw [g1', ← h4]
  exact g2
theorem all_dec {l : Listeners} {p : Sl Step} (e : Event) (clears : Bool) {es : Sl Effects} (ol : OkL l) (hn : p.n = true → p.l = []) (hl : p.l.length ≤ 2 ^ 31) (oe : OkE es) : dec (eT5 (eSl eCall) eListeners eEvent D.bool (D.int .i64)) (pc prog 50 [eListeners l, .list p.n (p.l.map eStep), eEvent e, .bool clears, .list es.n (es.l.map eEffects)]) = some (allD l p e clears es.l) := by rw [all_prg e clears ol hn hl oe]; exact dec_t5
theorem all_len (l : Listeners) (p : Sl Step) (e : Event) (clears : Bool) (es : List Effects) : (allG l p e clears es).1.length ≤ 2 ^ 31 := by
  have := goD_len es (8192 * 1025 + 1) l (beginP p.n p.l e clears).1 []
  exact Nat.le_trans this (by simp only [List.length_nil]; omega)
end Go.Proofs.Ytnijbejobbajfaa.D
