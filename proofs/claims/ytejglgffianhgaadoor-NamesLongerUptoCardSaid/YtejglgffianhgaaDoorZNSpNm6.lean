/- Shaken copy of a longer text: what one law needs. Its conditions: none. -/
import Derived.Test.YtejglgffianhgaaDoorZNSpNm5
set_option linter.unusedSimpArgs false
set_option linter.unusedVariables false
set_option linter.unusedSimpArgs false
set_option linter.unusedVariables false
set_option linter.unusedSectionVars false
set_option linter.unnecessarySimpa false
namespace Go.Proofs.YtejglgffianhgaaDoor.N
open Go.AI Go.Lib
set_option maxHeartbeats 4000000 in
theorem decN_mono (n n' b0 b1 b2 b3 b1' b2' b3' : Nat) (hn : n ≤ n') (h1 : 1 < n → b1' = b1) (h2 : 2 < n → b2' = b2) (h3 : 3 < n → b3' = b3) (hb : ¬ ((decodeN n b0 b1 b2 b3).1 = 65533 ∧ (decodeN n b0 b1 b2 b3).2 = 1)) : decodeN n' b0 b1' b2' b3' = decodeN n b0 b1 b2 b3 := by
  rcases decodeN_shape n b0 b1 b2 b3 with ⟨c, e⟩ | ⟨c1, c2, c3, cv, e⟩ | ⟨c1, c2, c3, c4, cv, cs, e⟩ | ⟨c1, c2, c3, c4, c5, cv, cw, e⟩ | e
  · rw [e, decodeN_ascii _ _ _ _ _ c]
  · rw [e, h1 c2]
    unfold decodeN
    rw [if_neg (by omega), if_pos ⟨c1, by omega, c3⟩, if_pos cv]
  · rw [e, h1 (by omega), h2 c2]
    unfold decodeN
    rw [if_neg (by omega), if_neg (by omega), if_pos ⟨c1, ⟨by omega, c3⟩, by omega, c4⟩, if_pos ⟨cv, by omega⟩]
  · rw [e, h1 (by omega), h2 (by omega), h3 c2]
    unfold decodeN
    rw [if_neg (by omega), if_neg (by omega), if_neg (by omega), if_pos ⟨c1, ⟨by omega, c3⟩, ⟨by omega, c4⟩, by omega, c5⟩, if_pos ⟨cv, by omega⟩]
  · rw [e] at hb; exact absurd ⟨rfl, rfl⟩ hb
theorem getD_app (l t : List UInt8) (k : Nat) (h : k < l.length) : (l ++ t).getD k 0 = l.getD k 0 := by
  rw [List.getD_eq_getElem?_getD, List.getD_eq_getElem?_getD, List.getElem?_append_left h]
theorem decode_append (l t : List UInt8) (hne : l ≠ []) (hb : ¬ bad l) : decodeL (l ++ t) = decodeL l := by
  have hl : 0 < l.length := List.length_pos_iff.2 hne
  unfold bad at hb
  rw [decodeL_N] at hb ⊢
  rw [decodeL_N l, getD_app l t 0 hl]
  exact decN_mono _ _ _ _ _ _ _ _ _ (by rw [List.length_append]; omega) (fun h => by rw [getD_app l t 1 h]) (fun h => by rw [getD_app l t 2 h]) (fun h => by rw [getD_app l t 3 h]) hb
theorem app_text : ∀ (n : Nat) (l t : List UInt8), l.length ≤ n → validD l = true → runes (l ++ t) = runes l ++ runes t ∧ validD (l ++ t) = validD t
  | 0, l, t, h, _ => by
    obtain rfl : l = [] := List.eq_nil_of_length_eq_zero (by omega)
    simp [runes_nil]
  | n + 1, l, t, h, hv => by
    by_cases hne : l = []
    · subst hne; simp [runes_nil]
    · have hw := decodeL_width l
      have hl : 0 < l.length := List.length_pos_iff.2 hne
      have hle := decodeL_le l hne
      rw [valid_step l hne] at hv
      split at hv
      · cases hv
      rename_i hb
      have hd := decode_append l t hne hb
      have ih := app_text n (l.drop (decodeL l).2) t (by rw [List.length_drop]; omega) hv
      have hdr : (l ++ t).drop (decodeL l).2 = l.drop (decodeL l).2 ++ t := List.drop_append_of_le_length hle
      have hne2 : l ++ t ≠ [] := by simp [hne]
      have hb2 : ¬ bad (l ++ t) := by unfold bad; rw [hd]; exact hb
      rw [runes_step _ hne2, runes_step l hne, valid_step _ hne2, if_neg hb2, hd, hdr, ih.1, ih.2]
      exact ⟨rfl, rfl⟩
theorem runes_app (l t : List UInt8) (hv : validD l = true) : runes (l ++ t) = runes l ++ runes t := (app_text l.length l t (Nat.le_refl _) hv).1
theorem valid_app (l t : List UInt8) (hv : validD l = true) : validD (l ++ t) = validD t := (app_text l.length l t (Nat.le_refl _) hv).2
theorem runes_low (b : UInt8) (t : List UInt8) (h : b.toNat < 128) : runes (b :: t) = (b.toNat : Int) :: runes t ∧ validD (b :: t) = validD t := by
  have hd := decodeL_ascii b t h
  refine ⟨?_, validD_cons b t h⟩
  rw [runes_step _ (by simp), hd]
  rfl
theorem name_iff (s : List UInt8) : nameB s = true ↔ validD s = true ∧ ∃ r t, runes s = r :: t ∧ startR r = true ∧ ∀ x ∈ t, partR x = true := by
  unfold nameB everyB
  rcases hr : runes s with _ | ⟨r, t⟩
  · simp
  · simp only [Bool.and_eq_true, List.all_eq_true]
    constructor
    · rintro ⟨h1, ⟨h2, h3⟩, h4⟩; exact ⟨h1, r, t, rfl, h2, h4⟩
    · rintro ⟨h1, r', t', he, h2, h4⟩
      cases he
      exact ⟨h1, ⟨h2, start_part h2⟩, h4⟩
theorem name_parts {s : List UInt8} (h : nameB s = true) : ∀ x ∈ runes s, partR x = true := by
  obtain ⟨_, r, t, hr, h2, h4⟩ := (name_iff s).1 h
  rw [hr]
  intro x hx
  rcases List.mem_cons.1 hx with rfl | hx
  · exact start_part h2
  · exact h4 x hx
theorem name_ne {s : List UInt8} (h : nameB s = true) : s ≠ [] := by
  obtain ⟨_, r, t, hr, _⟩ := (name_iff s).1 h
  rintro rfl
  cases hr
theorem nc_name {s : List UInt8} (h : ncB s = true) : nameB s = true ∧ (s.any fun b => b == 58) = false := by
  unfold ncB at h
  simpa using h
theorem name_more {s t : List UInt8} (h : nameB s = true) (hv : validD t = true) (ht : ∀ x ∈ runes t, partR x = true) : nameB (s ++ t) = true := by
  obtain ⟨h1, r, u, hr, h2, h4⟩ := (name_iff s).1 h
  refine (name_iff _).2 ⟨by rw [valid_app s t h1]; exact hv, r, u ++ runes t, by rw [runes_app s t h1, hr]; rfl, h2, fun x hx => ?_⟩
  rcases List.mem_append.1 hx with hx | hx
  · exact h4 x hx
  · exact ht x hx
theorem no_colon {s : List UInt8} (h : (s.any fun b => b == 58) = false) : at1 58 s = none := by
  unfold at1
  rw [List.findIdx?_eq_none_iff]
  simpa using h
theorem q_of_nc {s : List UInt8} (h : ncB s = true) : qB s = true := by
  unfold qB
  rw [no_colon (nc_name h).2]
  exact h
theorem name_of_q {s : List UInt8} (h : qB s = true) : nameB s = true := by
  unfold qB at h
  rcases hk : at1 58 s with _ | k
  · rw [hk] at h; exact (nc_name h).1
  · rw [hk] at h
    simp only [Bool.and_eq_true] at h
    obtain ⟨h1, h2⟩ := h
    rw [(at1_some hk).2.2.2]
    have hl := runes_low 58 (s.drop (k + 1)) (by decide)
    obtain ⟨v2, _⟩ := (name_iff _).1 (nc_name h2).1
    refine name_more (nc_name h1).1 (by rw [hl.2]; exact v2) fun x hx => ?_
    rw [hl.1] at hx
    rcases List.mem_cons.1 hx with rfl | hx
    · decide
    · exact name_parts (nc_name h2).1 x hx
theorem small_start {r : Int} (h : smallR r = true) : startR r = true := by
  unfold smallR at h; unfold startR
  rw [decide_eq_true_iff] at h ⊢; omega
theorem pcen_part {r : Int} (h : pcenR r = true) : partR r = true ∧ r ≠ 58 := by
  unfold pcenR smallR at h
  unfold partR startR
  simp only [Bool.or_eq_true, decide_eq_true_eq] at h ⊢
  omega
theorem custom_nc {s : List UInt8} (h : customB s = true) : ncB s = true := by
  unfold customB at h
  simp only [Bool.and_eq_true] at h
  obtain ⟨⟨h, _⟩, _⟩ := h
  unfold everyB at h
  rcases hr : runes s with _ | ⟨r, t⟩
  · rw [hr] at h; simp at h
  · rw [hr] at h
    simp only [Bool.and_eq_true, List.all_eq_true] at h
    obtain ⟨h1, ⟨h2, h3⟩, h4⟩ := h
    have hn : nameB s = true := (name_iff s).2 ⟨h1, r, t, hr, small_start h2, fun x hx => (pcen_part (h4 x hx)).1⟩
    unfold ncB
    rw [hn, Bool.true_and, Bool.not_eq_true', Bool.eq_false_iff]
    intro ha
    obtain ⟨b, hb, hb2⟩ := List.any_eq_true.1 ha
    obtain rfl : b = 58 := by simpa using hb2
    have := (low_mem 58 (by decide) s.length s (Nat.le_refl _) h1).1 hb
    rw [hr] at this
    rcases List.mem_cons.1 this with h5 | h5
    · exact (pcen_part h3).2 h5.symm
    · exact (pcen_part (h4 _ h5)).2 rfl
theorem has_run (s : List UInt8) (hs : s.length ≤ 2 ^ 40) : pc prog 22 [.str s] = some (.bool (s.any fun b => b == 58)) := by
  refine ok22 s _ ?_
  unfold P22
  rw [any_loop (l := s) (fun b => b == 58) (Sum.inr ()) (Sum.inl ()) ?_ ?_, Option.bind_some]
  · cases (s.any fun b => b == 58) <;> rfl
  · intro k hk
    have hw := wrap_nat (show k < 2 ^ 62 by omega)
    simp only [L22_0_step, rd_nat hk, Option.bind_some, hw]
    rw [if_pos (decide_eq_true (by omega)), show (58 : Int) = ((58 : UInt8).toNat : Int) from rfl, byte_eq]
    split <;> rfl
  · simp only [L22_0_step]
    rw [if_neg (by simp)]
theorem lawNamesAmong (s : List UInt8) (o : s.length ≤ maxLen) (hb : D.bulkAll [.str s] ≤ 1048576) : pc prog 6 [.str s] = some (.bool true) := by
  have hs : s.length ≤ 2 ^ 40 := by simp only [D.bulkAll, D.bulk] at hb; omega
  refine ok6 s _ ?_
  unfold P6
  have e1 : ncB s = (nameB s && !(s.any fun b => b == 58)) := rfl
  have e2 : hostsB s = (customB s || knownL.any fun x => s == x) := rfl
  have f1 : ncB s = true → qB s = true := q_of_nc
  have f2 : qB s = true → nameB s = true := name_of_q
  have f3 : customB s = true → ncB s = true := custom_nc
  simp only [begins_true, nc_prg s hs, name_prg s hs, has_run s hs, q_prg s hs, custom_prg s hs, hosts_prg s hs, dec_one (e := D.bool), Option.bind_some]
  rw [e2]
  generalize (knownL.any fun x => s == x) = k at *
  generalize (s.any fun b => b == 58) = h at *
  generalize ncB s = a at *
  generalize qB s = q at *
  generalize nameB s = m at *
  generalize customB s = c at *
  subst e1
  revert f1 f2 f3
  cases m <;> cases h <;> cases q <;> cases c <;> cases k <;> simp
end Go.Proofs.YtejglgffianhgaaDoor.N
