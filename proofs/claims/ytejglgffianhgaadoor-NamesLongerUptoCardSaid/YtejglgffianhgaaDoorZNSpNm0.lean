/- Shaken copy of a longer text: what one law needs. Its conditions: none. -/
import Derived.Test.YtejglgffianhgaaDoorZAiG
import Derived.Lib.ValidLaws
import Derived.Lib.IndexLaws
set_option linter.unusedSimpArgs false
set_option linter.unusedVariables false
set_option linter.unusedSimpArgs false
set_option linter.unusedVariables false
set_option linter.unusedSectionVars false
set_option linter.unnecessarySimpa false
namespace Go.Proofs.YtejglgffianhgaaDoor.N
open Go.AI Go.Lib
theorem dcr_drop (s : List UInt8) (pos : Nat) : dcr s pos = decodeL (s.drop pos) := by
  have := decodeL_drop ⟨s.toArray⟩ pos
  simpa [dcr] using this.symm
def bad (l : List UInt8) : Prop := (decodeL l).1 = 65533 ∧ (decodeL l).2 = 1
instance (l : List UInt8) : Decidable (bad l) := inferInstanceAs (Decidable (_ ∧ _))
def runesG : Nat → List UInt8 → List Int
  | 0, _ => []
  | n + 1, l => if l = [] then [] else ((decodeL l).1 : Int) :: runesG n (l.drop (decodeL l).2)
def runes (l : List UInt8) : List Int := runesG l.length l
theorem runesG_nil : ∀ n, runesG n [] = []
  | 0 => rfl
  | _ + 1 => by simp [runesG]
theorem runesG_fuel : ∀ (n m : Nat) (l : List UInt8), l.length ≤ n → l.length ≤ m → runesG n l = runesG m l
  | 0, m, l, hn, _ => by
    have : l = [] := List.eq_nil_of_length_eq_zero (by omega)
    subst this
    rw [runesG_nil, runesG_nil]
  | n + 1, 0, l, _, hm => by
    have : l = [] := List.eq_nil_of_length_eq_zero (by omega)
    subst this
    rw [runesG_nil, runesG_nil]
  | n + 1, m + 1, l, hn, hm => by
    unfold runesG
    by_cases hne : l = []
    · simp [hne]
    · have hw := decodeL_width l
      have hl : 0 < l.length := List.length_pos_iff.2 hne
      rw [if_neg hne, if_neg hne, runesG_fuel n m (l.drop (decodeL l).2) (by rw [List.length_drop]; omega) (by rw [List.length_drop]; omega)]
theorem runes_nil : runes [] = [] := rfl
theorem runes_step (l : List UInt8) (hne : l ≠ []) : runes l = ((decodeL l).1 : Int) :: runes (l.drop (decodeL l).2) := by
  have hl : 0 < l.length := List.length_pos_iff.2 hne
  have hw := decodeL_width l
  obtain ⟨n, hn⟩ : ∃ n, l.length = n + 1 := ⟨l.length - 1, by omega⟩
  unfold runes
  rw [hn]
  show (if l = [] then [] else _) = _
  rw [if_neg hne, runesG_fuel n (l.drop (decodeL l).2).length _ (by rw [List.length_drop]; omega) (Nat.le_refl _)]
theorem valid_step (l : List UInt8) (hne : l ≠ []) : validD l = if bad l then false else validD (l.drop (decodeL l).2) := validD_step l hne
theorem runes_len : ∀ (n : Nat) (l : List UInt8), l.length ≤ n → (runes l).length ≤ l.length
  | 0, l, h => by
    obtain rfl : l = [] := List.eq_nil_of_length_eq_zero (by omega)
    simp [runes_nil]
  | n + 1, l, h => by
    by_cases hne : l = []
    · subst hne; simp [runes_nil]
    · have hw := decodeL_width l
      have hl : 0 < l.length := List.length_pos_iff.2 hne
      have := runes_len n (l.drop (decodeL l).2) (by rw [List.length_drop]; omega)
      rw [runes_step l hne, List.length_cons]
      rw [List.length_drop] at this
      omega
theorem runes_eq_nil (l : List UInt8) : runes l = [] ↔ l = [] := by
  by_cases hne : l = []
  · subst hne; simp [runes_nil]
  · rw [runes_step l hne]; simp [hne]
def everyB (first rest : Int → Bool) (s : List UInt8) : Bool :=
  validD s && match runes s with
    | [] => false
    | r :: t => first r && rest r && t.all rest
theorem every_loop {step : Nat → Option (Nat ⊕ (Unit ⊕ Unit))} {s : List UInt8} (first rest : Int → Bool)
    (h : ∀ pos, pos < s.length → step pos = some (if (if pos = 0 then first ((decodeL (s.drop pos)).1 : Int) && rest ((decodeL (s.drop pos)).1 : Int) else rest ((decodeL (s.drop pos)).1 : Int)) = true then .inl (pos + (decodeL (s.drop pos)).2) else .inr (.inr ())))
    (he : ∀ pos, ¬ pos < s.length → step pos = some (.inr (.inl ()))) :
    loopV step 0 = some (if (match runes s with | [] => true | r :: t => first r && rest r && t.all rest) = true then .inl () else .inr ()) := by
  have key : ∀ n pos, pos ≠ 0 → s.length - pos ≤ n → loopV step pos = some (if (runes (s.drop pos)).all rest = true then .inl () else .inr ()) := by
    intro n
    induction n with
    | zero =>
      intro pos _ hn
      rw [List.drop_eq_nil_of_le (by omega), runes_nil]
      exact loopV_done (he pos (by omega))
    | succ n ih =>
      intro pos h0 hn
      by_cases hp : pos < s.length
      · have hne : s.drop pos ≠ [] := by rw [Ne, List.drop_eq_nil_iff]; omega
        have hs := h pos hp
        rw [if_neg h0] at hs
        have hw := decodeL_width (s.drop pos)
        rw [runes_step _ hne, List.all_cons, List.drop_drop]
        cases hr : rest ((decodeL (s.drop pos)).1 : Int) with
        | false =>
          rw [hr] at hs
          rw [loopV_done (r := .inr ()) (by simpa using hs)]
          simp
        | true =>
          rw [hr] at hs
          rw [loopV_next (y := pos + (decodeL (s.drop pos)).2) (by simpa using hs), ih _ (by omega) (by omega)]
          simp
      · rw [List.drop_eq_nil_of_le (by omega), runes_nil]
        exact loopV_done (he pos hp)
  by_cases hne : s = []
  · subst hne
    rw [runes_nil]
    exact loopV_done (he 0 (by simp))
  · have hl : 0 < s.length := List.length_pos_iff.2 hne
    have hs := h 0 hl
    rw [if_pos rfl, List.drop_zero] at hs
    have hw := decodeL_width s
    rw [runes_step s hne]
    dsimp only
    by_cases hr : (first ((decodeL s).1 : Int) && rest ((decodeL s).1 : Int)) = true
    · rw [if_pos hr] at hs
      rw [loopV_next hs, Nat.zero_add, key s.length _ (by omega) (by omega)]
      simp only [hr, Bool.true_and]
    · rw [if_neg hr] at hs
      rw [loopV_done hs]
      simp only [hr, Bool.false_and, Bool.false_eq_true, if_false]
theorem decode_low (l : List UInt8) (hne : l ≠ []) (hb : ¬ bad l) (h : (decodeL l).1 < 128) : ∃ b t, l = b :: t ∧ b.toNat = (decodeL l).1 ∧ (decodeL l).2 = 1 := by
  obtain ⟨b, t, rfl⟩ := List.exists_cons_of_ne_nil hne
  by_cases hb' : b.toNat < 128
  · rw [decodeL_ascii b t hb'] at *; exact ⟨b, t, rfl, rfl, rfl⟩
  · exfalso
    rw [decodeL_N] at h
    unfold bad at hb
    rw [decodeL_N] at hb
    simp only [List.getD_cons_zero] at h hb
    revert h hb
    unfold decodeN
    repeat' split
    all_goals (intro h hb; simp only at h hb; first | omega | exact h (by simp) | skip)
theorem decode_high (l : List UInt8) (hne : l ≠ []) (hb : ¬ bad l) (h : ¬ (decodeL l).1 < 128) : ∀ b ∈ l.take (decodeL l).2, 128 ≤ b.toNat := by
  obtain ⟨b0, t, rfl⟩ := List.exists_cons_of_ne_nil hne
  have hb0 : ¬ b0.toNat < 128 := fun hb' => by rw [decodeL_ascii b0 t hb'] at h; exact h hb'
  have key : ∀ (k : Nat) (b : UInt8), k < (decodeL (b0 :: t)).2 → (b0 :: t)[k]? = some b → 128 ≤ b.toNat := by
    rw [decodeL_N]
    unfold bad at hb
    rw [decodeL_N] at hb
    have hg : ∀ (k : Nat) (b : UInt8), (b0 :: t)[k]? = some b → (b0 :: t).getD k 0 = b := fun k b hk => by rw [List.getD_eq_getElem?_getD, hk]; rfl
    intro k b hk hkb
    have hgk := hg k b hkb
    match k, hk, hgk with
    | 0, _, hgk =>
      simp only [List.getD_cons_zero] at hgk
      subst hgk; omega
    | 1, hk, hgk =>
      rw [hgk] at hk hb
      revert hk hb
      unfold decodeN
      repeat' split
      all_goals (intro hk hb; simp only at hk hb; first | omega | (exfalso; exact hk (by simp)) | skip)
    | 2, hk, hgk =>
      rw [hgk] at hk hb
      revert hk hb
      unfold decodeN
      repeat' split
      all_goals (intro hk hb; simp only at hk hb; first | omega | (exfalso; exact hk (by simp)) | skip)
    | 3, hk, hgk =>
      rw [hgk] at hk hb
      revert hk hb
      unfold decodeN
      repeat' split
      all_goals (intro hk hb; simp only at hk hb; first | omega | (exfalso; exact hk (by simp)) | skip)
    | k + 4, hk, hgk =>
      revert hk
      unfold decodeN
      repeat' split
      all_goals (intro hk; simp only at hk; omega)
  intro b hm
  obtain ⟨k, hk⟩ := List.mem_iff_getElem?.1 hm
  rw [List.getElem?_take] at hk
  split at hk
  · rename_i hlt; exact key k b hlt hk
  · cases hk
theorem low_mem (c : UInt8) (hc : c.toNat < 128) : ∀ (n : Nat) (l : List UInt8), l.length ≤ n → validD l = true → (c ∈ l ↔ (c.toNat : Int) ∈ runes l)
  | 0, l, h, _ => by
    obtain rfl : l = [] := List.eq_nil_of_length_eq_zero (by omega)
    simp [runes_nil]
  | n + 1, l, h, hv => by
    by_cases hne : l = []
    · subst hne; simp [runes_nil]
    · have hw := decodeL_width l
      have hl : 0 < l.length := List.length_pos_iff.2 hne
      rw [valid_step l hne] at hv
      split at hv
      · cases hv
      rename_i hb
      have ih := low_mem c hc n (l.drop (decodeL l).2) (by rw [List.length_drop]; omega) hv
      rw [runes_step l hne, List.mem_cons, ← ih]
      have hsp : c ∈ l ↔ c ∈ l.take (decodeL l).2 ∨ c ∈ l.drop (decodeL l).2 := by
        rw [← List.mem_append, List.take_append_drop]
      rw [hsp]
      by_cases hlow : (decodeL l).1 < 128
      · obtain ⟨b, t, rfl, h1, h2⟩ := decode_low l hne hb hlow
        rw [h2, List.take_succ_cons, List.take_zero, List.mem_singleton, ← h1]
        constructor
        · rintro (rfl | h3)
          · exact .inl rfl
          · exact .inr h3
        · rintro (h3 | h3)
          · left
            exact UInt8.toNat_inj.1 (by omega)
          · exact .inr h3
      · have hh := decode_high l hne hb hlow
        constructor
        · rintro (h3 | h3)
          · have := hh c h3; omega
          · exact .inr h3
        · rintro (h3 | h3)
          · omega
          · exact .inr h3
end Go.Proofs.YtejglgffianhgaaDoor.N
