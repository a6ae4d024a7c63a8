/- Shaken copy of a longer text: what one law needs. Its conditions: none. -/
import Derived.Test.YtejglgffianhgaaDoorZNSpNm6
set_option linter.unusedSimpArgs false
set_option linter.unusedVariables false
set_option linter.unusedSimpArgs false
set_option linter.unusedVariables false
set_option linter.unusedSectionVars false
set_option linter.unnecessarySimpa false
namespace Go.Proofs.YtejglgffianhgaaDoor.N
open Go.AI Go.Lib
theorem split_back {a : List UInt8} (s : List UInt8) : qualB ⟨a, (splitB s).1, (splitB s).2⟩ = s ∧ (splitB s).1.length ≤ s.length ∧ (splitB s).2.length ≤ s.length := by
  unfold splitB
  rcases hk : at1 58 s with _ | k
  · exact ⟨rfl, by simp, Nat.le_refl _⟩
  · dsimp only
    by_cases hq : qB s = true
    · rw [if_pos hq]
      have h4 := (at1_some hk).2.2.2
      unfold qB at hq
      rw [hk] at hq
      simp only [Bool.and_eq_true] at hq
      have hne := name_ne (nc_name hq.1).1
      refine ⟨?_, by simp only [List.length_take]; omega, by simp only [List.length_drop]; omega⟩
      unfold qualB
      dsimp only
      rw [if_neg (by simpa using hne)]
      have : s.take k ++ [58] ++ s.drop (k + 1) = s.take k ++ 58 :: s.drop (k + 1) := by simp
      rw [this]; exact h4.symm
    · rw [if_neg hq]
      exact ⟨rfl, by simp, Nat.le_refl _⟩
theorem extract_zero {a q : List UInt8} (h : (extractB a q).2 = 0) : (extractB a q).1 = ⟨a, (splitB q).1, (splitB q).2⟩ := by
  unfold extractB at h ⊢
  by_cases h1 : 1024 < a.length
  · rw [if_pos h1] at h; cases h
  rw [if_neg h1] at h ⊢
  by_cases h2 : validB q ≠ 0
  · rw [if_pos h2] at h; exact absurd h h2
  rw [if_neg h2] at h ⊢
  split at h
  · cases h
  · rename_i h3; rw [if_neg h3]
theorem extract_some {a q : List UInt8} (h : (extractB a q).2 ≠ 0) : (extractB a q).1 = ⟨[], [], []⟩ := by
  unfold extractB at h ⊢
  by_cases h1 : 1024 < a.length
  · rw [if_pos h1]
  rw [if_neg h1] at h ⊢
  by_cases h2 : validB q ≠ 0
  · rw [if_pos h2]
  rw [if_neg h2] at h ⊢
  split at h
  · rename_i h3; rw [if_pos h3]
  · exact absurd rfl h
theorem extract_back {a q : List UInt8} (h : (extractB a q).2 = 0) : (extractB a q).1.space = a ∧ qualB (extractB a q).1 = q ∧ rightB (extractB a q).1 = true := by
  have hz := extract_zero h
  obtain ⟨s1, s2, s3⟩ := split_back (a := a) q
  have e1 : (extractB a q).1.space = a := by rw [hz]
  have e2 : qualB (extractB a q).1 = q := by rw [hz]; exact s1
  refine ⟨e1, e2, ?_⟩
  unfold rightB
  rw [e1, e2, h]
  simp
theorem lawNamesBack (a q : List UInt8) (n : Name) (o : a.length ≤ maxLen) (o' : q.length ≤ maxLen) (o'' : Name.ok n) (hb : D.bulkAll [.str a, .str q, eName n] ≤ 1048576) : pc prog 9 [.str a, .str q, eName n] = some (.bool true) := by
  simp only [eName, D.bulkAll, D.bulk] at hb
  refine ok9 a q n _ ?_
  unfold P9
  have hq := qual_len n
  have e0 := extract_prg a q (by omega) (by omega)
  have e1 := right_prg n (by omega) (by omega) (by omega)
  have e2 := qual_prg n (by omega) (by omega)
  have e3 := extract_prg n.space (qualB n) (by omega) (by omega)
  have tail : (if (!(rightB n)) = true then some true else some (bif ((extractB n.space (qualB n)).2 == 0) then (decide ((extractB n.space (qualB n)).1 = n)) else false)) = some true := by
    cases hr : rightB n with
    | false => rfl
    | true =>
      unfold rightB at hr
      rw [if_neg (by decide)]
      simp only [Bool.and_eq_true] at hr
      rw [hr.1, hr.2]; rfl
  by_cases hk : (extractB a q).2 = 0
  · obtain ⟨k1, k2, k3⟩ := extract_back hk
    have hz := extract_zero hk
    obtain ⟨s1, s2, s3⟩ := split_back (a := a) q
    have e4 := qual_prg (extractB a q).1 (by rw [hz]; simp only; omega) (by rw [hz]; simp only; omega)
    have e5 := right_prg (extractB a q).1 (by rw [k1]; omega) (by rw [hz]; simp only; omega) (by rw [hz]; simp only; omega)
    simp only [begins_true, e0, e1, e2, e3, e4, e5, dec_one (e := D.bool), dec_one (e := D.str), dec_one (e := eT2 eName (D.int .i64)), Option.bind_some, Bool.not_true, Bool.false_eq_true, if_false, hk, k1, k2, k3, beq_self_eq_true, if_true, cond_false, Bool.not_false]
    exact tail
  · have hx := extract_some hk
    have hk' : ((extractB a q).2 == 0) = false := by simpa using hk
    simp only [begins_true, e0, e1, e2, e3, dec_one (e := D.bool), dec_one (e := D.str), dec_one (e := eT2 eName (D.int .i64)), Option.bind_some, Bool.not_true, Bool.false_eq_true, if_false, hk', hx, decide_true]
    exact tail
theorem ofNat_nat (n : Nat) (h : n < 256) : (UInt8.ofNat n).toNat = n := by simp [UInt8.toNat_ofNat]; omega
theorem valid_rune {c : Nat} (h1 : c ≤ 1114111) (h2 : c < 55296 ∨ 57343 < c) : Utf8.valid (c : Int) = true := by
  unfold Utf8.valid
  simp only [Bool.or_eq_true, Bool.and_eq_true, decide_eq_true_eq]
  omega
theorem runeB_eq (r : Int) : runeB r = (Utf8.encode r).data.toList := rfl
theorem runeB_of {r : Int} {l : List UInt8} (h : Utf8.encode r = ⟨l.toArray⟩) : runeB r = l := by rw [runeB_eq, h]
theorem enc_b1 {c : Nat} (hv : Utf8.valid (c : Int) = true) (h : c < 128) : Utf8.encode c = ⟨#[UInt8.ofNat c]⟩ := by
  unfold Utf8.encode
  simp only [hv, if_true, Int.toNat_natCast]
  rw [if_pos h]
theorem rune_b1 {c : Nat} (hv : Utf8.valid (c : Int) = true) (h : c < 128) : runeB c = [UInt8.ofNat c] :=
  runeB_of (enc_b1 hv h)
theorem enc_b2 {c : Nat} (hv : Utf8.valid (c : Int) = true) (h : ¬ c < 128) (h' : c < 2048) : Utf8.encode c = ⟨#[UInt8.ofNat (192 + c / 64), UInt8.ofNat (128 + c % 64)]⟩ := by
  unfold Utf8.encode
  simp only [hv, if_true, Int.toNat_natCast]
  rw [if_neg h, if_pos h']
theorem rune_b2 {c : Nat} (hv : Utf8.valid (c : Int) = true) (h : ¬ c < 128) (h' : c < 2048) : runeB c = [UInt8.ofNat (192 + c / 64), UInt8.ofNat (128 + c % 64)] :=
  runeB_of (enc_b2 hv h h')
theorem enc_b3 {c : Nat} (hv : Utf8.valid (c : Int) = true) (h : ¬ c < 128) (h' : ¬ c < 2048) (h'' : c < 65536) : Utf8.encode c = ⟨#[UInt8.ofNat (224 + c / 4096), UInt8.ofNat (128 + c / 64 % 64), UInt8.ofNat (128 + c % 64)]⟩ := by
  unfold Utf8.encode
  simp only [hv, if_true, Int.toNat_natCast]
  rw [if_neg h, if_neg h', if_pos h'']
theorem rune_b3 {c : Nat} (hv : Utf8.valid (c : Int) = true) (h : ¬ c < 128) (h' : ¬ c < 2048) (h'' : c < 65536) : runeB c = [UInt8.ofNat (224 + c / 4096), UInt8.ofNat (128 + c / 64 % 64), UInt8.ofNat (128 + c % 64)] :=
  runeB_of (enc_b3 hv h h' h'')
theorem enc_b4 {c : Nat} (hv : Utf8.valid (c : Int) = true) (h : ¬ c < 128) (h' : ¬ c < 2048) (h'' : ¬ c < 65536) : Utf8.encode c = ⟨#[UInt8.ofNat (240 + c / 262144), UInt8.ofNat (128 + c / 4096 % 64), UInt8.ofNat (128 + c / 64 % 64), UInt8.ofNat (128 + c % 64)]⟩ := by
  unfold Utf8.encode
  simp only [hv, if_true, Int.toNat_natCast]
  rw [if_neg h, if_neg h', if_neg h'']
theorem rune_b4 {c : Nat} (hv : Utf8.valid (c : Int) = true) (h : ¬ c < 128) (h' : ¬ c < 2048) (h'' : ¬ c < 65536) : runeB c = [UInt8.ofNat (240 + c / 262144), UInt8.ofNat (128 + c / 4096 % 64), UInt8.ofNat (128 + c / 64 % 64), UInt8.ofNat (128 + c % 64)] :=
  runeB_of (enc_b4 hv h h' h'')
theorem dec_b1 {c : Nat} (h : c < 128) : decodeL [UInt8.ofNat c] = (c, 1) := by
  have := decodeL_ascii (UInt8.ofNat c) [] (by rw [ofNat_nat c (by omega)]; omega)
  rwa [ofNat_nat c (by omega)] at this
theorem dec_b2 {c : Nat} (h : ¬ c < 128) (h' : c < 2048) : decodeL [UInt8.ofNat (192 + c / 64), UInt8.ofNat (128 + c % 64)] = (c, 2) := by
  rw [decodeL_N]
  simp only [List.getD_cons_zero, List.getD_cons_succ, List.getD_nil, List.length_cons, List.length_nil]
  rw [ofNat_nat _ (by omega), ofNat_nat _ (by omega), decN2 _ _ _ _ _ (by omega) (by omega), if_pos (by omega)]
  exact Prod.ext (by simp only; omega) rfl
theorem dec_b3 {c : Nat} (h : ¬ c < 2048) (h' : c < 65536) (h'' : c < 55296 ∨ 57343 < c) : decodeL [UInt8.ofNat (224 + c / 4096), UInt8.ofNat (128 + c / 64 % 64), UInt8.ofNat (128 + c % 64)] = (c, 3) := by
  rw [decodeL_N]
  simp only [List.getD_cons_zero, List.getD_cons_succ, List.getD_nil, List.length_cons, List.length_nil]
  rw [ofNat_nat _ (by omega), ofNat_nat _ (by omega), ofNat_nat _ (by omega), decN3 _ _ _ _ _ c (by omega) (by omega) (by omega) (by omega), if_pos (by omega), if_pos (by omega)]
theorem dec_b4 {c : Nat} (h : ¬ c < 65536) (h' : c ≤ 1114111) : decodeL [UInt8.ofNat (240 + c / 262144), UInt8.ofNat (128 + c / 4096 % 64), UInt8.ofNat (128 + c / 64 % 64), UInt8.ofNat (128 + c % 64)] = (c, 4) := by
  rw [decodeL_N]
  simp only [List.getD_cons_zero, List.getD_cons_succ, List.getD_nil, List.length_cons, List.length_nil]
  rw [ofNat_nat _ (by omega), ofNat_nat _ (by omega), ofNat_nat _ (by omega), ofNat_nat _ (by omega), decN4 _ _ _ _ _ c (by omega) (by omega) (by omega) (by omega) (by omega), if_pos (by omega), if_pos (by omega)]
theorem rune_fin {l : List UInt8} {c w : Nat} (h : decodeL l = (c, w)) (hl : l.length = w) (hw : w ≤ 4) (h0 : 0 < w) (hc : ¬ (c = 65533 ∧ w = 1)) : decodeL l = (c, l.length) ∧ ¬ bad l ∧ l.length ≤ 4 ∧ l ≠ [] := by
  refine ⟨by rw [h, hl], ?_, by omega, fun he => ?_⟩
  · unfold bad; rw [h]; exact hc
  · subst he; simp at hl; omega
theorem rune_one (r : Int) (h0 : 0 < r) (h1 : r ≤ 1114111) (h2 : r < 55296 ∨ 57343 < r) : decodeL (runeB r) = (r.toNat, (runeB r).length) ∧ ¬ bad (runeB r) ∧ (runeB r).length ≤ 4 ∧ runeB r ≠ [] := by
  obtain ⟨c, hc⟩ : ∃ c : Nat, r = (c : Int) := ⟨r.toNat, (Int.toNat_of_nonneg (by omega)).symm⟩
  have h1' : c ≤ 1114111 := by omega
  have h2' : c < 55296 ∨ 57343 < c := by omega
  rw [hc, Int.toNat_natCast]
  have hv := valid_rune h1' h2'
  clear hc h1 h2 h0
  by_cases c1 : c < 128
  · rw [rune_b1 hv c1]; exact rune_fin (dec_b1 c1) rfl (by omega) (by omega) (by omega)
  by_cases c2 : c < 2048
  · rw [rune_b2 hv c1 c2]; exact rune_fin (dec_b2 c1 c2) rfl (by omega) (by omega) (by omega)
  by_cases c3 : c < 65536
  · rw [rune_b3 hv c1 c2 c3]; exact rune_fin (dec_b3 c2 c3 h2') rfl (by omega) (by omega) (by omega)
  · rw [rune_b4 hv c1 c2 c3]; exact rune_fin (dec_b4 c3 h1') rfl (by omega) (by omega) (by omega)
theorem name_rune {s : List UInt8} {r : Int} (h : nameB s = true) (h0 : 0 < r) (h1 : r ≤ 1114111) (h2 : r < 55296 ∨ 57343 < r) : nameB (s ++ runeB r) = partR r := by
  obtain ⟨e1, e2, e3, e4⟩ := rune_one r h0 h1 h2
  have hr : runes (runeB r) = [r] := by
    rw [runes_step _ e4, e1]
    dsimp only
    rw [List.drop_length, runes_nil, Int.toNat_of_nonneg (by omega)]
  have hv : validD (runeB r) = true := by
    rw [valid_step _ e4, if_neg e2, e1]
    dsimp only
    rw [List.drop_length]; rfl
  cases hp : partR r with
  | true => exact name_more h hv (by rw [hr]; intro x hx; obtain rfl := List.mem_singleton.1 hx; exact hp)
  | false =>
    rw [Bool.eq_false_iff]
    intro hn
    have := name_parts hn r (by rw [runes_app s _ ((name_iff s).1 h).1, hr]; simp)
    rw [hp] at this; cases this
theorem colon_at {s t : List UInt8} (h : (s.any fun b => b == 58) = false) : at1 58 (s ++ [58] ++ t) = some s.length := by
  rw [show s ++ [58] ++ t = s ++ 58 :: t by simp]
  exact at1_of h
theorem q_two {s t : List UInt8} (h : (s.any fun b => b == 58) = false) : qB (s ++ [58] ++ t) = (ncB s && ncB t) := by
  unfold qB
  rw [colon_at h]
  simp
theorem split_two {s t : List UInt8} (h : (s.any fun b => b == 58) = false) (hs : ncB s = true) (ht : ncB t = true) : splitB (s ++ [58] ++ t) = (s, t) := by
  unfold splitB
  rw [colon_at h]
  dsimp only
  rw [q_two h, hs, ht]
  simp
theorem nc_two {s t : List UInt8} : ncB (s ++ [58] ++ t) = false := by
  rw [Bool.eq_false_iff]
  intro h
  have := (nc_name h).2
  simp at this
set_option maxHeartbeats 4000000 in
theorem lawNamesLonger (s t : List UInt8) (r : Int) (o : s.length ≤ maxLen) (o' : t.length ≤ maxLen) (o'' : IntKind.i32.min ≤ r ∧ r ≤ IntKind.i32.max) (hb : D.bulkAll [.str s, .str t, .int .i32 r] ≤ 1048576) : pc prog 4 [.str s, .str t, .int .i32 r] = some (.bool true) := by
  simp only [D.bulkAll, D.bulk] at hb
  refine ok4 s t r _ ?_
  unfold P4
  have l1 : s.length + ([58] : List UInt8).length ≤ maxStr := by simp only [maxStr, List.length_cons, List.length_nil]; omega
  have l2 : (s ++ [58]).length + t.length ≤ maxStr := by simp only [maxStr, List.length_append, List.length_cons, List.length_nil]; omega
  have l3 : (s ++ [58] ++ t).length + ([58] : List UInt8).length ≤ maxStr := by simp only [maxStr, List.length_append, List.length_cons, List.length_nil]; omega
  have l4 : (s ++ [58] ++ t ++ [58]).length + s.length ≤ maxStr := by simp only [maxStr, List.length_append, List.length_cons, List.length_nil]; omega
  have k1 : (s ++ [58] ++ t).length ≤ 2 ^ 40 := by simp only [List.length_append, List.length_cons, List.length_nil]; omega
  have k2 : (s ++ [58] ++ t ++ [58] ++ s).length ≤ 2 ^ 40 := by simp only [List.length_append, List.length_cons, List.length_nil]; omega
  have hs : s.length ≤ 2 ^ 40 := by omega
  have ht : t.length ≤ 2 ^ 40 := by omega
  simp only [begins_true, nc_prg s hs, nc_prg t ht, name_prg s hs, has_run s hs, has_run t ht, part_prg, split_prg _ k1, q_prg _ k1, q_prg _ k2, l1, l2, l3, l4, dec_one (e := D.bool), dec_one (e := eT2 D.str D.str), Option.bind_some, if_true, Bool.not_true, Bool.false_eq_true, if_false]
  obtain ⟨X, hX⟩ : ∃ X, X = (if ncB s = true then if ncB t = true then (if (bif (bif qB (s ++ [58] ++ t) then ((splitB (s ++ [58] ++ t)).1 == s) else false) then ((splitB (s ++ [58] ++ t)).2 == t) else false) = true then some (!(qB (s ++ [58] ++ t ++ [58] ++ s))) else some false) else (if qB (s ++ [58] ++ t) = true then (if (!(s.any fun b => b == 58)) = true then some (t.any fun b => b == 58) else some true) else some true) else (if qB (s ++ [58] ++ t) = true then (if (!(s.any fun b => b == 58)) = true then some (t.any fun b => b == 58) else some true) else some true)) := ⟨_, rfl⟩
  have hXt : X = some true := by
    rw [hX]
    by_cases hc : (s.any fun b => b == 58) = true
    · have : ncB s = false := by rw [Bool.eq_false_iff]; intro h; rw [(nc_name h).2] at hc; cases hc
      rw [this, hc]; simp
    · simp only [Bool.not_eq_true] at hc
      have q2 := q_two (t := t) hc
      have q3 : qB (s ++ [58] ++ t ++ [58] ++ s) = false := by
        rw [show s ++ [58] ++ t ++ [58] ++ s = s ++ [58] ++ (t ++ [58] ++ s) by simp, q_two hc, nc_two]; simp
      cases h1 : ncB s with
      | false => rw [q2, h1, hc]; rfl
      | true =>
        cases h2 : ncB t with
        | false => rw [q2, h1, h2, hc]; rfl
        | true =>
          rw [split_two hc h1 h2, q2, q3, h1, h2]; simp
  simp only [← hX, hXt]
  by_cases c1 : r < 55296 ∨ 57343 < r
  · rw [if_pos (by rcases c1 with h | h <;> simp [h])]
    by_cases c2 : nameB s = true ∧ 0 < r ∧ r ≤ 1114111
    · have hrl := (rune_one r c2.2.1 c2.2.2 c1).2.2.1
      rw [if_pos (by simp [c2.1, c2.2.1, c2.2.2]), if_pos (by simp only [maxStr]; omega), name_prg _ (by simp only [List.length_append]; omega), dec_one (e := D.bool), Option.bind_some, name_rune c2.1 c2.2.1 c2.2.2 c1]
      simp
    · rw [if_neg (by simp only [cond_eq_ite]; intro h; apply c2; simpa [and_assoc] using h)]
  · rw [if_neg (by simp only [cond_eq_ite]; intro h; apply c1; simpa using h)]
end Go.Proofs.YtejglgffianhgaaDoor.N
