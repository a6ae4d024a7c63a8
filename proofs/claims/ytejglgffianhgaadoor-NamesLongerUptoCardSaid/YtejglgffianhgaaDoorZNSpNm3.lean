/- Shaken copy of a longer text: what one law needs. Its conditions: none. -/
import Derived.Test.YtejglgffianhgaaDoorZNSpNm2
set_option linter.unusedSimpArgs false
set_option linter.unusedVariables false
set_option linter.unusedSimpArgs false
set_option linter.unusedVariables false
set_option linter.unusedSectionVars false
set_option linter.unnecessarySimpa false
namespace Go.Proofs.YtejglgffianhgaaDoor.N
open Go.AI Go.Lib
theorem drop_ne {s : List UInt8} {pos : Nat} (h : pos < s.length) : s.drop pos ≠ [] := by rw [Ne, List.drop_eq_nil_iff]; omega
theorem runes_ref (s : List UInt8) (hs : s.length ≤ 2 ^ 40) : pc prog 58 [.str s] = some (eT2 (eSl (D.int .i32)) D.bool (if validD s = true then (⟨(runes s).isEmpty, runes s⟩, true) else (⟨true, []⟩, false))) := by
  refine ok58 s _ ?_
  unfold P58
  obtain ⟨r, h1, rfl⟩ := loopV_rule (step := L58_0_step s) (fun x => ∃ pos : Nat, x.2 = (pos : Int) ∧ pos ≤ s.length ∧ x.1 ++ runes (s.drop pos) = runes s ∧ validD (s.drop pos) = validD s) (fun x => s.length - x.2.toNat) (fun r => r = if validD s = true then Sum.inl (runes s) else Sum.inr ()) (by
    rintro ⟨acc, p⟩ ⟨pos, hp, hle, hr, hv⟩
    obtain rfl : p = (pos : Int) := hp
    dsimp only at hr
    have hlen := runes_len s.length s (Nat.le_refl _)
    by_cases hlt : pos < s.length
    · have hne := drop_ne hlt
      have hw := decodeL_width (s.drop pos)
      have hle2 := decodeL_le (s.drop pos) hne
      rw [List.length_drop] at hle2
      unfold L58_0_step
      rw [if_pos (by simpa using hlt), one_ref s pos hlt hs, dec_one, Option.bind_some]
      rw [runes_step _ hne, List.drop_drop] at hr
      rw [valid_step _ hne, List.drop_drop] at hv
      have hal : acc.length + 1 ≤ (runes s).length := by rw [← hr, List.length_append, List.length_cons]; omega
      unfold oneR
      by_cases hb : bad (s.drop pos)
      · right
        rw [if_pos hb] at hv
        rw [if_pos (show _ ∧ _ from hb), ← hv]
        exact ⟨_, rfl, rfl⟩
      · left
        rw [if_neg hb] at hv
        rw [if_neg (show ¬ (_ ∧ _) from hb)]
        rw [if_neg (by simp only [beq_iff_eq]; omega), if_pos (by simp only [AI.roomBytes]; omega)]
        refine ⟨_, rfl, ⟨pos + (decodeL (s.drop pos)).2, ?_, by omega, ?_, hv⟩, ?_⟩
        · dsimp only
          rw [w64 (by omega) (by omega)]; omega
        · dsimp only
          rw [List.append_assoc]; exact hr
        · dsimp only
          rw [w64 (by omega) (by omega)]; omega
    · right
      obtain rfl : pos = s.length := by omega
      rw [List.drop_length, runes_nil, List.append_nil] at hr
      rw [List.drop_length] at hv
      refine ⟨_, by unfold L58_0_step; rw [if_neg (by simp)], ?_⟩
      rw [if_pos (by rw [← hv]; rfl)]
      exact congrArg Sum.inl hr) ([], 0) ⟨0, rfl, Nat.zero_le _, by simp, by simp⟩
  rw [h1, Option.bind_some]
  by_cases hv : validD s = true
  · rw [if_pos hv, if_pos hv]
  · rw [if_neg hv, if_neg hv]
theorem byte_eq (y c : UInt8) : (((y.toNat : Int)) == (c.toNat : Int)) = (y == c) := by
  rw [Bool.eq_iff_iff]
  simp only [beq_iff_eq]
  constructor
  · intro h; exact UInt8.toNat_inj.1 (by omega)
  · rintro rfl; rfl
def at1 (c : UInt8) (s : List UInt8) : Option Nat := s.findIdx? (fun b => b == c)
def ixI (x : Option Nat) : Int := match x with | some k => (k : Int) | none => -1
theorem index_at (c : UInt8) : ∀ s : List UInt8, indexByte s c = ixI (at1 c s)
  | [] => rfl
  | b :: l => by
    unfold at1 indexByte
    rw [List.findIdx?_cons, index_at c l]
    cases hb : (b == c) with
    | true => rfl
    | false =>
      unfold at1
      rcases List.findIdx? (fun b => b == c) l with _ | k
      · rfl
      · have : ((ixI (some k)) == -1) = false := by
          show ((k : Int) == -1) = false
          rw [beq_eq_false_iff_ne]; omega
        simp only [Bool.false_eq_true, if_false, this, Option.map_some]
        show (k : Int) + 1 = ((k + 1 : Nat) : Int)
        omega
theorem at1_none {c : UInt8} {s : List UInt8} (h : at1 c s = none) : s.any (fun b => b == c) = false := by
  unfold at1 at h
  rw [List.findIdx?_eq_none_iff] at h
  simpa using h
theorem at1_some {c : UInt8} {s : List UInt8} {k : Nat} (h : at1 c s = some k) : k < s.length ∧ s.any (fun b => b == c) = true ∧ (s.take k).any (fun b => b == c) = false ∧ s = s.take k ++ c :: s.drop (k + 1) := by
  unfold at1 at h
  rw [List.findIdx?_eq_some_iff_getElem] at h
  obtain ⟨h1, h2, h3⟩ := h
  refine ⟨h1, List.any_eq_true.2 ⟨_, List.getElem_mem h1, h2⟩, ?_, ?_⟩
  · rw [List.any_eq_false]
    intro x hx
    obtain ⟨j, hj, rfl⟩ := List.mem_iff_getElem.1 hx
    rw [List.length_take] at hj
    rw [List.getElem_take]
    exact h3 j (by omega)
  · have : s[k] = c := by simpa using h2
    rw [← this, ← List.drop_eq_getElem_cons h1, List.take_append_drop]
theorem at1_of {c : UInt8} {a b : List UInt8} (h : a.any (fun x => x == c) = false) : at1 c (a ++ c :: b) = some a.length := by
  unfold at1
  rw [List.findIdx?_append, List.findIdx?_cons]
  have : List.findIdx? (fun x => x == c) a = none := by
    rw [List.findIdx?_eq_none_iff]
    simpa using h
  rw [this]
  simp
theorem index_run (s : List UInt8) (c : UInt8) : pc prog 110 [.str s, .str [c]] = some (.int .i64 (ixI (at1 c s))) := by
  rw [prim110, ← index_at]; rfl
theorem contains_run (s : List UInt8) (c : UInt8) : pc prog 56 [.str s, .str [c]] = some (.bool (s.any (fun b => b == c))) := by
  refine ok56 s [c] _ ?_
  unfold P56
  rw [ok89 s [c] (ixI (at1 c s)) (by unfold P89; rw [index_run, dec_one (e := D.int .i64)]; rfl), dec_one (e := D.int .i64), Option.bind_some]
  rcases h : at1 c s with _ | k
  · rw [at1_none h]; rfl
  · rw [(at1_some h).2.1]
    simp [ixI]
theorem cut_take {α : Type} (l : List α) (k : Nat) (h : k ≤ l.length) : cut l 0 (k : Int) = some (l.take k) := by
  unfold cut; rw [if_pos (by omega)]; simp
theorem cut_drop {α : Type} (l : List α) (k : Nat) (h : k ≤ l.length) : cut l (k : Int) (l.length : Int) = some (l.drop k) := by
  unfold cut; rw [if_pos (by omega)]
  simp only [Int.toNat_natCast]
  rw [List.take_of_length_le (by rw [List.length_drop]; omega)]
def cutR (c : UInt8) (s : List UInt8) : List UInt8 × List UInt8 × Bool := match at1 c s with | some k => (s.take k, s.drop (k + 1), true) | none => (s, [], false)
theorem cut_run (s : List UInt8) (c : UInt8) (hs : s.length ≤ 2 ^ 40) : pc prog 57 [.str s, .str [c]] = some (eT3 D.str D.str D.bool (cutR c s)) := by
  refine ok57 s [c] _ ?_
  unfold P57
  rw [ok90 s [c] (cutR c s) ?_, dec_one]
  · rfl
  · unfold P90
    rw [index_run, dec_one (e := D.int .i64), Option.bind_some]
    unfold cutR
    rcases h : at1 c s with _ | k
    · rfl
    · have hk := (at1_some h).1
      rw [show ixI (some k) = (k : Int) from rfl]
      rw [if_pos (decide_eq_true (by omega)), cut_take s k (by omega), Option.bind_some, w64 (by simp only [List.length_cons, List.length_nil]; omega) (by simp only [List.length_cons, List.length_nil]; omega)]
      rw [show ((k : Int) + (([c] : List UInt8).length : Int)) = ((k + 1 : Nat) : Int) by simp, cut_drop s (k + 1) (by omega), Option.bind_some]
theorem valid_run (s : List UInt8) (hs : s.length ≤ 2 ^ 40) : pc prog 88 [.str s] = some (.bool (validD s)) := by
  rw [prim88]
  unfold primValid
  exact if_pos (by omega)
theorem start_part {r : Int} (h : startR r = true) : partR r = true := by unfold partR; rw [h]; rfl
theorem small_pcen {r : Int} (h : smallR r = true) : pcenR r = true := by unfold pcenR; rw [h]; rfl
def nameB (s : List UInt8) : Bool := everyB startR partR s
theorem name_prg (s : List UInt8) (hs : s.length ≤ 2 ^ 40) : pc prog 18 [.str s] = some (.bool (nameB s)) := by
  refine ok18 s _ ?_
  unfold P18
  rw [every_loop (s := s) startR partR ?_ ?_, Option.bind_some]
  · unfold nameB everyB
    rcases hr : runes s with _ | ⟨r, t⟩
    · have := (runes_eq_nil s).1 hr
      subst this
      rfl
    · have hne : s ≠ [] := fun h => by subst h; cases hr
      have hb : (!(s == [])) = true := by simpa using hne
      dsimp only
      by_cases hc : (startR r && partR r && t.all partR) = true
      · rw [if_pos hc, hc]
        dsimp only
        rw [if_pos hb, valid_run s hs, dec_one (e := D.bool), Option.bind_some, Bool.and_true]
      · rw [if_neg hc]
        simp only [Bool.not_eq_true] at hc
        rw [hc]; simp
  · intro pos hp
    unfold L18_0_step
    rw [if_pos (by simpa using hp), dcr_drop]
    generalize ((decodeL (s.drop pos)).1 : Int) = r
    rw [show (([(⟨58, 58⟩ : names_span), (⟨95, 95⟩ : names_span), (⟨65, 90⟩ : names_span), (⟨97, 122⟩ : names_span), (⟨192, 214⟩ : names_span), (⟨216, 246⟩ : names_span), (⟨248, 767⟩ : names_span), (⟨880, 893⟩ : names_span)]).map enames_span) = startL.map enames_span from rfl]
    rw [show (([(⟨45, 45⟩ : names_span), (⟨46, 46⟩ : names_span), (⟨48, 57⟩ : names_span), (⟨183, 183⟩ : names_span), (⟨768, 879⟩ : names_span), (⟨8255, 8256⟩ : names_span)]).map enames_span) = partL.map enames_span from rfl]
    simp only [among_start, among_part, far_run, dec_one (e := D.bool), dec_one (e := eSl enames_span), among_far, start_prg, Option.bind_some]
    have e1 := start_spans r
    have e2 := part_spans r
    by_cases h0 : pos = 0
    · subst h0
      rw [if_pos rfl]
      rw [← e2, ← e1]
      cases startL.any (spanIn r) <;> cases farL.any (spanIn r) <;> cases partL.any (spanIn r) <;> rfl
    · rw [if_neg (by simp only [beq_iff_eq]; omega), if_neg h0, ← e2]
      cases startR r <;> cases partL.any (spanIn r) <;> rfl
  · intro pos hp
    unfold L18_0_step
    rw [if_neg (by simpa using hp)]
end Go.Proofs.YtejglgffianhgaaDoor.N
