/- Shaken copy of a longer text: what one law needs. Its conditions: none. -/
import Derived.Test.YtejglgffianhgaaDoorZNSpNm1
set_option linter.unusedSimpArgs false
set_option linter.unusedVariables false
set_option linter.unusedSimpArgs false
set_option linter.unusedVariables false
set_option linter.unusedSectionVars false
set_option linter.unnecessarySimpa false
namespace Go.Proofs.YtejglgffianhgaaDoor.N
open Go.AI Go.Lib
theorem rd_getD {s : List UInt8} {k : Nat} (h : k < s.length) : rd s (k : Int) = some (s.getD k 0) := by
  rw [rd_nat h, List.getD_eq_getElem?_getD, List.getElem?_eq_getElem h]; rfl
theorem one_step {s : List UInt8} {a : Int} {q : Int × Int × Int} {x : Int × Int} (k : Nat) (hlt : x.1 < q.1) (hk : a + x.1 = k) (hkl : k < s.length) (hs : s.length ≤ 2 ^ 40) (h0 : 0 ≤ x.1) (h1 : x.1 ≤ 4) (h2 : 0 ≤ x.2) (h3 : x.2 < 2 ^ 30) :
    L91_0_step s a q x = some (if 128 ≤ (s.getD k 0).toNat ∧ (s.getD k 0).toNat < 192 then .inl (x.1 + 1, 64 * x.2 + ((s.getD k 0).toNat : Int) - 128) else .inr (.inr ())) := by
  unfold L91_0_step
  have hb := (s.getD k 0).toNat_lt
  rw [if_pos (decide_eq_true hlt), hk, w64 (by omega) (by omega), rd_getD hkl, Option.bind_some]
  generalize (s.getD k 0).toNat = y at hb ⊢
  rw [w64 (n := (y : Int)) (by omega) (by omega), w64 (n := 64 * x.2) (by omega) (by omega), w64 (n := 64 * x.2 + (y : Int)) (by omega) (by omega), w64 (n := 64 * x.2 + (y : Int) - 128) (by omega) (by omega), w64 (n := x.1 + 1) (by omega) (by omega)]
  by_cases c1 : (y : Int) < 128
  · simp only [c1, decide_true, cond_true, if_true]
    rw [if_neg (by omega)]
  · by_cases c2 : (192 : Int) ≤ y
    · simp only [c1, c2, decide_true, decide_false, cond_false, if_true]
      rw [if_neg (by omega)]
    · simp only [c1, c2, decide_false, cond_false, Bool.false_eq_true, if_false]
      rw [if_pos (by omega)]
theorem one_end {s : List UInt8} {a : Int} {q : Int × Int × Int} {x : Int × Int} (hge : ¬ x.1 < q.1) : L91_0_step s a q x = some (.inr (.inl x.2)) := by
  unfold L91_0_step
  rw [if_neg (by simpa using hge)]
abbrev cnt (y : Nat) : Prop := 128 ≤ y ∧ y < 192
theorem one_loop2 {s : List UInt8} {pos : Nat} {r c : Int} (hl : pos + 2 ≤ s.length) (hs : s.length ≤ 2 ^ 40) (h2 : 0 ≤ r) (h3 : r < 64) :
    loopV (L91_0_step s pos (2, r, c)) (1, r) = some (if cnt (s.getD (pos + 1) 0).toNat then .inl (64 * r + ((s.getD (pos + 1) 0).toNat : Int) - 128) else .inr ()) := by
  have hb := (s.getD (pos + 1) 0).toNat_lt
  have e1 := one_step (s := s) (a := pos) (q := (2, r, c)) (x := (1, r)) (pos + 1) (by simp) (by simp) (by omega) hs (by simp) (by simp) h2 (by simp only; omega)
  by_cases c1 : cnt (s.getD (pos + 1) 0).toNat
  · rw [if_pos (show _ ∧ _ from c1)] at e1
    rw [loopV_next e1, loopV_done (one_end (by simp)), if_pos c1]
  · rw [if_neg (show ¬ (_ ∧ _) from c1)] at e1
    rw [loopV_done e1, if_neg c1]
theorem one_loop3 {s : List UInt8} {pos : Nat} {r c : Int} (hl : pos + 3 ≤ s.length) (hs : s.length ≤ 2 ^ 40) (h2 : 0 ≤ r) (h3 : r < 64) :
    loopV (L91_0_step s pos (3, r, c)) (1, r) = some (if cnt (s.getD (pos + 1) 0).toNat ∧ cnt (s.getD (pos + 2) 0).toNat then .inl (64 * (64 * r + ((s.getD (pos + 1) 0).toNat : Int) - 128) + ((s.getD (pos + 2) 0).toNat : Int) - 128) else .inr ()) := by
  have hb := (s.getD (pos + 1) 0).toNat_lt
  have e1 := one_step (s := s) (a := pos) (q := (3, r, c)) (x := (1, r)) (pos + 1) (by simp) (by simp) (by omega) hs (by simp) (by simp) h2 (by simp only; omega)
  by_cases c1 : cnt (s.getD (pos + 1) 0).toNat
  · rw [if_pos (show _ ∧ _ from c1)] at e1
    have := c1.1
    have := c1.2
    have e2 := one_step (s := s) (a := pos) (q := (3, r, c)) (x := (1 + 1, 64 * r + ((s.getD (pos + 1) 0).toNat : Int) - 128)) (pos + 2) (by simp) (by simp) (by omega) hs (by simp) (by simp) (by simp only; omega) (by simp only; omega)
    by_cases c2 : cnt (s.getD (pos + 2) 0).toNat
    · rw [if_pos (show _ ∧ _ from c2)] at e2
      rw [loopV_next e1, loopV_next e2, loopV_done (one_end (by simp)), if_pos ⟨c1, c2⟩]
    · rw [if_neg (show ¬ (_ ∧ _) from c2)] at e2
      rw [loopV_next e1, loopV_done e2, if_neg (fun h => c2 h.2)]
  · rw [if_neg (show ¬ (_ ∧ _) from c1)] at e1
    rw [loopV_done e1, if_neg (fun h => c1 h.1)]
theorem one_loop4 {s : List UInt8} {pos : Nat} {r c : Int} (hl : pos + 4 ≤ s.length) (hs : s.length ≤ 2 ^ 40) (h2 : 0 ≤ r) (h3 : r < 64) :
    loopV (L91_0_step s pos (4, r, c)) (1, r) = some (if cnt (s.getD (pos + 1) 0).toNat ∧ cnt (s.getD (pos + 2) 0).toNat ∧ cnt (s.getD (pos + 3) 0).toNat then .inl (64 * (64 * (64 * r + ((s.getD (pos + 1) 0).toNat : Int) - 128) + ((s.getD (pos + 2) 0).toNat : Int) - 128) + ((s.getD (pos + 3) 0).toNat : Int) - 128) else .inr ()) := by
  have hb := (s.getD (pos + 1) 0).toNat_lt
  have hb2 := (s.getD (pos + 2) 0).toNat_lt
  have e1 := one_step (s := s) (a := pos) (q := (4, r, c)) (x := (1, r)) (pos + 1) (by simp) (by simp) (by omega) hs (by simp) (by simp) h2 (by simp only; omega)
  by_cases c1 : cnt (s.getD (pos + 1) 0).toNat
  · rw [if_pos (show _ ∧ _ from c1)] at e1
    have := c1.1
    have := c1.2
    have e2 := one_step (s := s) (a := pos) (q := (4, r, c)) (x := (1 + 1, 64 * r + ((s.getD (pos + 1) 0).toNat : Int) - 128)) (pos + 2) (by simp) (by simp) (by omega) hs (by simp) (by simp) (by simp only; omega) (by simp only; omega)
    by_cases c2 : cnt (s.getD (pos + 2) 0).toNat
    · rw [if_pos (show _ ∧ _ from c2)] at e2
      have := c2.1
      have := c2.2
      have e3 := one_step (s := s) (a := pos) (q := (4, r, c)) (x := (1 + 1 + 1, 64 * (64 * r + ((s.getD (pos + 1) 0).toNat : Int) - 128) + ((s.getD (pos + 2) 0).toNat : Int) - 128)) (pos + 3) (by simp) (by simp) (by omega) hs (by simp) (by simp) (by simp only; omega) (by simp only; omega)
      by_cases c3 : cnt (s.getD (pos + 3) 0).toNat
      · rw [if_pos (show _ ∧ _ from c3)] at e3
        rw [loopV_next e1, loopV_next e2, loopV_next e3, loopV_done (one_end (by simp)), if_pos ⟨c1, c2, c3⟩]
      · rw [if_neg (show ¬ (_ ∧ _) from c3)] at e3
        rw [loopV_next e1, loopV_next e2, loopV_done e3, if_neg (fun h => c3 h.2.2)]
    · rw [if_neg (show ¬ (_ ∧ _) from c2)] at e2
      rw [loopV_next e1, loopV_done e2, if_neg (fun h => c2 h.2.1)]
  · rw [if_neg (show ¬ (_ ∧ _) from c1)] at e1
    rw [loopV_done e1, if_neg (fun h => c1 h.1)]
def oneR (d : Nat × Nat) : Int × Int := if d.1 = 65533 ∧ d.2 = 1 then (0, 0) else ((d.1 : Int), (d.2 : Int))
def tailV (least w v : Int) : Int × Int := if ¬ (v < least ∨ 1114111 < v) then (if 55296 ≤ v ∧ v ≤ 57343 then (0, 0) else (v, w)) else (0, 0)
set_option maxRecDepth 100000 in
set_option maxHeartbeats 4000000 in
theorem decN2 (n b0 b1 b2 b3 : Nat) (h1 : b1 < 256) (hb : 194 ≤ b0 ∧ b0 < 224) : decodeN n b0 b1 b2 b3 = if 2 ≤ n ∧ 128 ≤ b1 ∧ b1 < 192 then (b0 % 32 * 64 + b1 % 64, 2) else (65533, 1) := by
  unfold decodeN
  repeat' split
  all_goals first | rfl | (exfalso; omega) | (apply Prod.ext <;> simp only <;> omega)
set_option maxRecDepth 100000 in
set_option maxHeartbeats 4000000 in
theorem decN3 (n b0 b1 b2 b3 c : Nat) (hc : c = b0 % 16 * 4096 + b1 % 64 * 64 + b2 % 64) (h1 : b1 < 256) (h2 : b2 < 256) (hb : 224 ≤ b0 ∧ b0 < 240) : decodeN n b0 b1 b2 b3 = if 3 ≤ n ∧ (128 ≤ b1 ∧ b1 < 192) ∧ 128 ≤ b2 ∧ b2 < 192 then (if 2048 ≤ c ∧ (c < 55296 ∨ 57344 ≤ c) then (c, 3) else (65533, 1)) else (65533, 1) := by
  unfold decodeN
  repeat' split
  all_goals first | rfl | (exfalso; omega) | (apply Prod.ext <;> simp only <;> omega)
set_option maxRecDepth 100000 in
set_option maxHeartbeats 4000000 in
theorem decN4 (n b0 b1 b2 b3 c : Nat) (hc : c = b0 % 8 * 262144 + b1 % 64 * 4096 + b2 % 64 * 64 + b3 % 64) (h1 : b1 < 256) (h2 : b2 < 256) (h3 : b3 < 256) (hb : 240 ≤ b0 ∧ b0 < 245) : decodeN n b0 b1 b2 b3 = if 4 ≤ n ∧ (128 ≤ b1 ∧ b1 < 192) ∧ (128 ≤ b2 ∧ b2 < 192) ∧ 128 ≤ b3 ∧ b3 < 192 then (if 65536 ≤ c ∧ c ≤ 1114111 then (c, 4) else (65533, 1)) else (65533, 1) := by
  unfold decodeN
  repeat' split
  all_goals first | rfl | (exfalso; omega) | (apply Prod.ext <;> simp only <;> omega)
theorem oneR_bad : oneR (65533, 1) = (0, 0) := rfl
theorem dec2y (n b0 b1 b2 b3 : Nat) (hn : 2 ≤ n) (h1 : b1 < 256) (hb : 194 ≤ b0 ∧ b0 < 224) (c1 : 128 ≤ b1 ∧ b1 < 192) : oneR (decodeN n b0 b1 b2 b3) = tailV 128 2 (64 * ((b0 : Int) - 192) + (b1 : Int) - 128) := by
  rw [decN2 n b0 b1 b2 b3 h1 hb, if_pos ⟨hn, c1⟩]
  unfold oneR tailV
  repeat' split
  all_goals first | (exfalso; simp only at *; omega) | rfl | (apply Prod.ext <;> simp only <;> omega) | (simp only [Prod.mk.injEq] at *; omega)
theorem dec2n (n b0 b1 b2 b3 : Nat) (h1 : b1 < 256) (hb : 194 ≤ b0 ∧ b0 < 224) (c1 : ¬ (2 ≤ n ∧ 128 ≤ b1 ∧ b1 < 192)) : oneR (decodeN n b0 b1 b2 b3) = (0, 0) := by
  rw [decN2 n b0 b1 b2 b3 h1 hb, if_neg c1, oneR_bad]
theorem dec3y (n b0 b1 b2 b3 : Nat) (hn : 3 ≤ n) (h1 : b1 < 256) (h2 : b2 < 256) (hb : 224 ≤ b0 ∧ b0 < 240) (c1 : 128 ≤ b1 ∧ b1 < 192) (c2 : 128 ≤ b2 ∧ b2 < 192) : oneR (decodeN n b0 b1 b2 b3) = tailV 2048 3 (64 * (64 * ((b0 : Int) - 224) + (b1 : Int) - 128) + (b2 : Int) - 128) := by
  obtain ⟨c, hc⟩ : ∃ c, c = b0 % 16 * 4096 + b1 % 64 * 64 + b2 % 64 := ⟨_, rfl⟩
  rw [decN3 n b0 b1 b2 b3 c hc h1 h2 hb, if_pos ⟨hn, c1, c2⟩, show 64 * (64 * ((b0 : Int) - 224) + (b1 : Int) - 128) + (b2 : Int) - 128 = (c : Int) by omega]
  by_cases hk : 2048 ≤ c ∧ (c < 55296 ∨ 57344 ≤ c)
  · rw [if_pos hk]
    unfold oneR tailV
    rw [if_neg (by simp only; omega), if_pos (by omega), if_neg (by omega)]
    rfl
  · rw [if_neg hk, oneR_bad]
    unfold tailV
    split
    · rw [if_pos (by omega)]
    · rfl
theorem dec3n (n b0 b1 b2 b3 : Nat) (h1 : b1 < 256) (h2 : b2 < 256) (hb : 224 ≤ b0 ∧ b0 < 240) (c1 : ¬ (3 ≤ n ∧ (128 ≤ b1 ∧ b1 < 192) ∧ 128 ≤ b2 ∧ b2 < 192)) : oneR (decodeN n b0 b1 b2 b3) = (0, 0) := by
  rw [decN3 n b0 b1 b2 b3 _ rfl h1 h2 hb, if_neg c1, oneR_bad]
theorem dec4y (n b0 b1 b2 b3 : Nat) (hn : 4 ≤ n) (h1 : b1 < 256) (h2 : b2 < 256) (h3 : b3 < 256) (hb : 240 ≤ b0 ∧ b0 < 245) (c1 : 128 ≤ b1 ∧ b1 < 192) (c2 : 128 ≤ b2 ∧ b2 < 192) (c3 : 128 ≤ b3 ∧ b3 < 192) : oneR (decodeN n b0 b1 b2 b3) = tailV 65536 4 (64 * (64 * (64 * ((b0 : Int) - 240) + (b1 : Int) - 128) + (b2 : Int) - 128) + (b3 : Int) - 128) := by
  obtain ⟨c, hc⟩ : ∃ c, c = b0 % 8 * 262144 + b1 % 64 * 4096 + b2 % 64 * 64 + b3 % 64 := ⟨_, rfl⟩
  rw [decN4 n b0 b1 b2 b3 c hc h1 h2 h3 hb, if_pos ⟨hn, c1, c2, c3⟩, show 64 * (64 * (64 * ((b0 : Int) - 240) + (b1 : Int) - 128) + (b2 : Int) - 128) + (b3 : Int) - 128 = (c : Int) by omega]
  by_cases hk : 65536 ≤ c ∧ c ≤ 1114111
  · rw [if_pos hk]
    unfold oneR tailV
    rw [if_neg (by simp only; omega), if_pos (by omega), if_neg (by omega)]
    rfl
  · rw [if_neg hk, oneR_bad]
    unfold tailV
    rw [if_neg (by omega)]
theorem dec4n (n b0 b1 b2 b3 : Nat) (h1 : b1 < 256) (h2 : b2 < 256) (h3 : b3 < 256) (hb : 240 ≤ b0 ∧ b0 < 245) (c1 : ¬ (4 ≤ n ∧ (128 ≤ b1 ∧ b1 < 192) ∧ (128 ≤ b2 ∧ b2 < 192) ∧ 128 ≤ b3 ∧ b3 < 192)) : oneR (decodeN n b0 b1 b2 b3) = (0, 0) := by
  rw [decN4 n b0 b1 b2 b3 _ rfl h1 h2 h3 hb, if_neg c1, oneR_bad]
theorem dec_bad (n b0 b1 b2 b3 : Nat) (hb : (128 ≤ b0 ∧ b0 < 194) ∨ (245 ≤ b0 ∧ b0 < 256)) : oneR (decodeN n b0 b1 b2 b3) = (0, 0) := by rw [decodeN_bad n b0 b1 b2 b3 hb]; rfl
theorem dec_low (n b0 b1 b2 b3 : Nat) (hb : b0 < 128) : oneR (decodeN n b0 b1 b2 b3) = ((b0 : Int), 1) := by
  rw [decodeN_ascii n b0 b1 b2 b3 hb]
  unfold oneR
  rw [if_neg (by simp only; omega)]
  rfl
set_option maxHeartbeats 4000000 in
theorem one_ref (s : List UInt8) (pos : Nat) (hp : pos < s.length) (hs : s.length ≤ 2 ^ 40) : pc prog 91 [.str s, .int .i64 pos] = some (eT2 (D.int .i32) (D.int .i64) (oneR (decodeL (s.drop pos)))) := by
  refine ok91 s pos _ ?_
  unfold P91
  rw [rd_getD hp, Option.bind_some, decodeL_N, List.length_drop, getD_dropU, getD_dropU, getD_dropU, getD_dropU, Nat.add_zero]
  have g0 := (s.getD pos 0).toNat_lt
  have g1 := (s.getD (pos + 1) 0).toNat_lt
  have g2 := (s.getD (pos + 2) 0).toNat_lt
  have g3 := (s.getD (pos + 3) 0).toNat_lt
  have L2 : ∀ r c : Int, pos + 2 ≤ s.length → 0 ≤ r → r < 64 → _ := fun r c hl h2 h3 => one_loop2 (c := c) hl hs h2 h3
  have L3 : ∀ r c : Int, pos + 3 ≤ s.length → 0 ≤ r → r < 64 → _ := fun r c hl h2 h3 => one_loop3 (c := c) hl hs h2 h3
  have L4 : ∀ r c : Int, pos + 4 ≤ s.length → 0 ≤ r → r < 64 → _ := fun r c hl h2 h3 => one_loop4 (c := c) hl hs h2 h3
  unfold cnt at L2 L3 L4
  generalize (s.getD pos 0).toNat = y0 at g0 ⊢
  generalize (s.getD (pos + 1) 0).toNat = y1 at g1 L2 L3 L4 ⊢
  generalize (s.getD (pos + 2) 0).toNat = y2 at g2 L3 L4 ⊢
  generalize (s.getD (pos + 3) 0).toNat = y3 at g3 L4 ⊢
  rw [w64 (n := (y0 : Int)) (by omega) (by omega)]
  by_cases a0 : y0 < 128
  · rw [if_pos (by simpa using (by omega : (y0 : Int) < 128)), dec_low _ _ _ _ _ a0, w32 (by omega) (by omega)]
  rw [if_neg (by simpa using (by omega : ¬ (y0 : Int) < 128))]
  have fin : ∀ (w least v : Int), 0 ≤ least → (if (!(bif (decide (v < least)) then true else (decide (1114111 < v)))) = true then if (bif (decide (55296 ≤ v)) then (decide (v ≤ 57343)) else false) = true then some ((0 : Int), (0 : Int)) else some ((IntKind.wrap .i32 v), w) else some (0, 0)) = some (tailV least w v) := by
    intro w least v hl0
    unfold tailV
    by_cases k1 : v < least
    · simp [k1]
    by_cases k2 : 1114111 < v
    · simp [k1, k2]
    by_cases k3 : 55296 ≤ v ∧ v ≤ 57343
    · simp [k1, k2, k3]
    · simp only [k1, k2, k3, decide_false, cond_false, Bool.not_false, if_true, or_self, not_false_eq_true, if_false]
      rw [if_neg, w32]
      · omega
      · omega
      · simp; omega
  by_cases a1 : y0 < 194
  · simp only [decide_eq_false (p := 194 ≤ (y0 : Int)) (by omega), decide_eq_true (p := (y0 : Int) < 224) (by omega), decide_eq_false (p := 224 ≤ (y0 : Int)) (by omega), decide_eq_true (p := (y0 : Int) < 240) (by omega), decide_eq_false (p := 240 ≤ (y0 : Int)) (by omega), decide_eq_true (p := (y0 : Int) < 245) (by omega), cond_true, cond_false, Bool.false_eq_true, if_true, if_false, Option.bind_some]
    rw [dec_bad _ _ _ _ _ (.inl ⟨by omega, by omega⟩)]
  by_cases a2 : y0 < 224
  · simp only [decide_eq_true (p := 194 ≤ (y0 : Int)) (by omega), decide_eq_true (p := (y0 : Int) < 224) (by omega), decide_eq_false (p := 224 ≤ (y0 : Int)) (by omega), decide_eq_true (p := (y0 : Int) < 240) (by omega), decide_eq_false (p := 240 ≤ (y0 : Int)) (by omega), decide_eq_true (p := (y0 : Int) < 245) (by omega), cond_true, cond_false, Bool.false_eq_true, if_true, if_false, Option.bind_some]
    rw [w64 (n := (y0 : Int) - 192) (by omega) (by omega), w64 (n := (pos : Int) + 2) (by omega) (by omega)]
    by_cases hn : (s.length : Int) < (pos : Int) + 2
    · rw [if_pos (decide_eq_true hn), dec2n _ _ _ _ _ (by omega) ⟨by omega, by omega⟩ (by omega)]
    · rw [if_neg (by simpa using hn), L2 _ _ (by omega) (by omega) (by omega), Option.bind_some]
      by_cases hc : 128 ≤ y1 ∧ y1 < 192
      · rw [if_pos hc]
        dsimp only
        rw [fin _ _ _ (by omega), dec2y _ _ _ _ _ (by omega) (by omega) ⟨by omega, by omega⟩ hc]
      · rw [if_neg hc]
        dsimp only
        rw [dec2n _ _ _ _ _ (by omega) ⟨by omega, by omega⟩ (fun h => hc h.2)]
  by_cases a3 : y0 < 240
  · simp only [decide_eq_true (p := 194 ≤ (y0 : Int)) (by omega), decide_eq_false (p := (y0 : Int) < 224) (by omega), decide_eq_true (p := 224 ≤ (y0 : Int)) (by omega), decide_eq_true (p := (y0 : Int) < 240) (by omega), decide_eq_false (p := 240 ≤ (y0 : Int)) (by omega), decide_eq_true (p := (y0 : Int) < 245) (by omega), cond_true, cond_false, Bool.false_eq_true, if_true, if_false, Option.bind_some]
    rw [w64 (n := (y0 : Int) - 224) (by omega) (by omega), w64 (n := (pos : Int) + 3) (by omega) (by omega)]
    by_cases hn : (s.length : Int) < (pos : Int) + 3
    · rw [if_pos (decide_eq_true hn), dec3n _ _ _ _ _ (by omega) (by omega) ⟨by omega, by omega⟩ (by omega)]
    · rw [if_neg (by simpa using hn), L3 _ _ (by omega) (by omega) (by omega), Option.bind_some]
      by_cases hc : (128 ≤ y1 ∧ y1 < 192) ∧ (128 ≤ y2 ∧ y2 < 192)
      · rw [if_pos hc]
        dsimp only
        rw [fin _ _ _ (by omega), dec3y _ _ _ _ _ (by omega) (by omega) (by omega) ⟨by omega, by omega⟩ hc.1 hc.2]
      · rw [if_neg hc]
        dsimp only
        rw [dec3n _ _ _ _ _ (by omega) (by omega) ⟨by omega, by omega⟩ (fun h => hc h.2)]
  by_cases a4 : y0 < 245
  · simp only [decide_eq_true (p := 194 ≤ (y0 : Int)) (by omega), decide_eq_false (p := (y0 : Int) < 224) (by omega), decide_eq_true (p := 224 ≤ (y0 : Int)) (by omega), decide_eq_false (p := (y0 : Int) < 240) (by omega), decide_eq_true (p := 240 ≤ (y0 : Int)) (by omega), decide_eq_true (p := (y0 : Int) < 245) (by omega), cond_true, cond_false, Bool.false_eq_true, if_true, if_false, Option.bind_some]
    rw [w64 (n := (y0 : Int) - 240) (by omega) (by omega), w64 (n := (pos : Int) + 4) (by omega) (by omega)]
    by_cases hn : (s.length : Int) < (pos : Int) + 4
    · rw [if_pos (decide_eq_true hn), dec4n _ _ _ _ _ (by omega) (by omega) (by omega) ⟨by omega, by omega⟩ (by omega)]
    · rw [if_neg (by simpa using hn), L4 _ _ (by omega) (by omega) (by omega), Option.bind_some]
      by_cases hc : (128 ≤ y1 ∧ y1 < 192) ∧ (128 ≤ y2 ∧ y2 < 192) ∧ (128 ≤ y3 ∧ y3 < 192)
      · rw [if_pos hc]
        dsimp only
        rw [fin _ _ _ (by omega), dec4y _ _ _ _ _ (by omega) (by omega) (by omega) (by omega) ⟨by omega, by omega⟩ hc.1 hc.2.1 hc.2.2]
      · rw [if_neg hc]
        dsimp only
        rw [dec4n _ _ _ _ _ (by omega) (by omega) (by omega) ⟨by omega, by omega⟩ (fun h => hc h.2)]
  · simp only [decide_eq_true (p := 194 ≤ (y0 : Int)) (by omega), decide_eq_false (p := (y0 : Int) < 224) (by omega), decide_eq_true (p := 224 ≤ (y0 : Int)) (by omega), decide_eq_false (p := (y0 : Int) < 240) (by omega), decide_eq_true (p := 240 ≤ (y0 : Int)) (by omega), decide_eq_false (p := (y0 : Int) < 245) (by omega), cond_true, cond_false, Bool.false_eq_true, if_true, if_false, Option.bind_some]
    rw [dec_bad _ _ _ _ _ (.inr ⟨by omega, by omega⟩)]
end Go.Proofs.YtejglgffianhgaaDoor.N
