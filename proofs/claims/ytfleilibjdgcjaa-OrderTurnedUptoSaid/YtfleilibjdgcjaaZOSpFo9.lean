/- Shaken copy of a longer text: what one law needs. Its conditions: none. -/
import Derived.Test.YtfleilibjdgcjaaZOSpFo8
set_option linter.unusedSimpArgs false
set_option linter.unusedVariables false
set_option linter.unusedSimpArgs false
set_option linter.unusedVariables false
set_option linter.unusedSectionVars false
set_option linter.unnecessarySimpa false
namespace Go.Proofs.Ytfleilibjdgcjaa.O
open Go.AI
theorem fault_zero {f : List Node} {l : List Int} : faultR f l = 0 ↔ Right f ∧ ∀ h ∈ l, isN f h := by
  unfold faultR
  by_cases hr : Right f
  · rw [if_pos (rightB_iff.2 hr)]
    by_cases ha : (l.all fun h => decide (isN f h)) = true
    · rw [if_pos ha]; simp only [true_iff]; exact ⟨hr, by simpa using ha⟩
    · rw [if_neg ha]; constructor
      · intro h; cases h
      · rintro ⟨-, h⟩; exact absurd (by simpa using h) ha
  · rw [if_neg (fun e => hr (rightB_iff.1 e))]
    constructor
    · intro h; cases h
    · rintro ⟨h, -⟩; exact absurd h hr
theorem index_prg (l : Sl Int) (x : Int) (hl : l.l.length ≤ 2 ^ 40) : pc prog 188 [.list l.n (l.l.map (D.int .i64)), .int .i64 x] = some (.int .i64 (idx l.l x)) := by
  refine ok188 l x _ ?_
  unfold P188 idx
  rw [find_loop (l := l.l) (· == x) (fun k => Sum.inr (k : Int)) (Sum.inl ()) ?_ ?_, Option.bind_some]
  · rcases List.findIdx? (· == x) l.l with _ | k <;> rfl
  · intro k hk
    have hw := wrap_nat (show k < 2 ^ 62 by omega)
    simp only [L188_0_step, rd_nat hk, Option.bind_some, hw]
    rw [if_pos (decide_eq_true (by omega)), show (x == l.l[k]) = (l.l[k] == x) by rw [Bool.eq_iff_iff, beq_iff_eq, beq_iff_eq]; exact eq_comm]
    split <;> rfl
  · simp only [L188_0_step]
    rw [if_neg (by simp)]
theorem at_prg (f : Forest) (h : Int) (hf : f.nodes.l.length ≤ 2 ^ 40) : pc prog 91 [eForest f, .int .i64 h] = some (eNode (nodeD f.nodes.l h)) := by
  refine ok91 f h _ ?_
  unfold P91
  rw [bor]
  by_cases hh : isN f.nodes.l h
  · have hh' := hh
    unfold isN at hh'
    obtain ⟨n, hn⟩ := nodeO_in hh.1 hh.2
    rw [if_neg (by simp; omega), w64 (by omega) (by omega), rd_node hn]
    unfold nodeD
    rw [hn]; rfl
  · rw [nodeD_out hh, if_pos (by unfold isN at hh; simp; omega)]; rfl
theorem place_prg (f : Forest) (h : Int) (hf : Fit f.nodes.l) : pc prog 146 [eForest f, .int .i64 h] = some (.int .i64 (plc f.nodes.l h)) := by
  refine ok146 f h _ ?_
  unfold P146
  simp only [at_prg f _ hf.1, dec_one (e := eNode), Option.bind_some]
  rw [index_prg _ _ (fit_kids hf _), dec_one (e := D.int .i64), Option.bind_some]; rfl
theorem root_prg (f : Forest) (h : Int) (hf : Fit f.nodes.l) (hr : Right f.nodes.l) (hh : isN f.nodes.l h) : pc prog 104 [eForest f, .int .i64 h] = some (.int .i64 (root f.nodes.l h)) := by
  refine ok104 f h _ ?_
  unfold P104
  have key : ∀ h, isN f.nodes.l h → ∀ r, loopV (L104_0_step f) (r, h) = some (root f.nodes.l h, 0) := by
    refine par_ind hr (fun h hh hk => absurd hk hh) fun h hh ih _ r => ?_
    have hne : (!(h == 0)) = true := by unfold isN at hh; simp; omega
    rw [loopV_next (y := (h, par f.nodes.l h))]
    · by_cases hp : par f.nodes.l h = 0
      · rw [hp, root_top hr hh hp]
        exact loopV_done (by simp only [L104_0_step]; rfl)
      · rw [root_par hr hp]; exact ih (par_in hr hp).2.1 h
    · simp only [L104_0_step]
      rw [if_pos hne, at_prg f _ hf.1, dec_one (e := eNode)]; rfl
  rw [key h hh h]; rfl
theorem holds_prg (f : Forest) (a b : Int) (hf : Fit f.nodes.l) (hr : Right f.nodes.l) (hb : b = 0 ∨ isN f.nodes.l b) : pc prog 86 [eForest f, .int .i64 a, .int .i64 b] = some (.bool (decide (a ∈ anc f.nodes.l b))) := by
  refine ok86 f a b _ ?_
  unfold P86
  have key : ∀ b, (b = 0 ∨ isN f.nodes.l b) → loopV (L86_0_step f a) b = some (if a ∈ anc f.nodes.l b then .inr a else .inl 0) := by
    have hz : loopV (L86_0_step f a) 0 = some (.inl 0) := loopV_done (by simp only [L86_0_step]; rfl)
    refine par_ind hr (fun b hb hk => ?_) fun b hb ih _ => ?_
    · obtain rfl := hk.resolve_right hb
      rw [anc_out isN_zero, hz]; rfl
    · have hne : (!(b == 0)) = true := by unfold isN at hb; simp; omega
      rw [anc_in hr hb]
      by_cases e : b = a
      · subst e
        rw [if_pos List.mem_cons_self]
        refine loopV_done ?_
        simp only [L86_0_step]
        rw [if_pos hne, if_pos (by simp)]
      · rw [loopV_next (y := par f.nodes.l b)]
        · have hm : (a ∈ b :: anc f.nodes.l (par f.nodes.l b)) = (a ∈ anc f.nodes.l (par f.nodes.l b)) := by
            rw [List.mem_cons]; exact propext ⟨fun h => h.resolve_left (fun x => e x.symm), .inr⟩
          simp only [hm]
          refine ih ?_
          by_cases hp : par f.nodes.l b = 0
          · exact .inl hp
          · exact .inr (par_in hr hp).2.1
        · simp only [L86_0_step]
          rw [if_pos hne, if_neg (by simpa using e), at_prg f _ hf.1, dec_one (e := eNode)]; rfl
  rw [key b hb, Option.bind_some]
  by_cases h : a ∈ anc f.nodes.l b
  · rw [if_pos h, decide_eq_true h]
  · rw [if_neg h, decide_eq_false h]
theorem par_or {f : List Node} (hr : Right f) (b : Int) : par f b = 0 ∨ isN f (par f b) := by
  by_cases hp : par f b = 0
  · exact .inl hp
  · exact .inr (par_in hr hp).2.1
end Go.Proofs.Ytfleilibjdgcjaa.O
