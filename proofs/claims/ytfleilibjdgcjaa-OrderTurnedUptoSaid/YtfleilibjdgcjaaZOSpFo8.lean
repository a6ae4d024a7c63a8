/- Shaken copy of a longer text: what one law needs. Its conditions: none. -/
import Derived.Test.YtfleilibjdgcjaaZOSpFo7
set_option linter.unusedSimpArgs false
set_option linter.unusedVariables false
set_option linter.unusedSimpArgs false
set_option linter.unusedVariables false
set_option linter.unusedSectionVars false
set_option linter.unnecessarySimpa false
namespace Go.Proofs.Ytfleilibjdgcjaa.O
open Go.AI
def idx (l : List Int) (x : Int) : Int := match l.findIdx? (· == x) with | some k => (k : Int) | none => -1
theorem idx_nat {l : List Int} {x : Int} {k : Nat} (h : l.findIdx? (· == x) = some k) : idx l x = k := by unfold idx; rw [h]
theorem idx_mem {l : List Int} {x : Int} : 0 ≤ idx l x ↔ x ∈ l := by
  unfold idx
  rcases e : l.findIdx? (· == x) with _ | k
  · rw [List.findIdx?_eq_none_iff] at e
    constructor
    · intro h; exact absurd h (by simp)
    · intro hx; have := e x hx; simp at this
  · rw [List.findIdx?_eq_some_iff_getElem] at e
    obtain ⟨h1, h2, -⟩ := e
    simp only [beq_iff_eq] at h2
    constructor
    · intro _; rw [← h2]; exact List.getElem_mem _
    · intro _; exact Int.natCast_nonneg k
theorem idx_at {l : List Int} (hn : l.Nodup) {i : Nat} (hi : i < l.length) : idx l l[i] = i := by
  refine idx_nat (List.findIdx?_eq_some_iff_getElem.2 ⟨hi, by simp, fun j hj => ?_⟩)
  have := List.pairwise_iff_getElem.1 (List.nodup_iff_pairwise_ne.1 hn) j i (by omega) hi hj
  simpa using this
theorem idx_get {l : List Int} {x : Int} (h : x ∈ l) : ∃ i : Nat, ∃ hi : i < l.length, l[i] = x ∧ idx l x = i := by
  have h0 := idx_mem.2 h
  unfold idx at h0 ⊢
  rcases e : l.findIdx? (· == x) with _ | k
  · rw [e] at h0; exact absurd h0 (by simp)
  · rw [List.findIdx?_eq_some_iff_getElem] at e
    obtain ⟨h1, h2, -⟩ := e
    simp only [beq_iff_eq] at h2
    exact ⟨k, h1, h2, rfl⟩
def plc (f : List Node) (h : Int) : Int := max (idx (kidsL f (par f h)) h) 0
def way (f : List Node) (h : Int) : List Int := ((anc f h).map (plc f)).reverse
theorem way_in {f : List Node} {h : Int} (hr : Right f) (hh : isN f h) : way f h = way f (par f h) ++ [plc f h] := by
  unfold way
  rw [anc_in hr hh]; simp
def cmpL : List Int → List Int → Int
  | [], [] => 0
  | [], _ :: _ => -1
  | _ :: _, [] => 1
  | a :: x, b :: y => if a < b then -1 else if b < a then 1 else cmpL x y
theorem cmpL_self : ∀ a, cmpL a a = 0
  | [] => rfl
  | a :: x => by unfold cmpL; rw [if_neg (by omega), if_neg (by omega), cmpL_self x]
theorem cmpL_swap : ∀ a b, cmpL b a = - cmpL a b
  | [], [] => rfl
  | [], _ :: _ => rfl
  | _ :: _, [] => rfl
  | a :: x, b :: y => by
    unfold cmpL
    by_cases h1 : a < b
    · rw [if_pos h1, if_neg (by omega), if_pos h1]; rfl
    · rw [if_neg h1]
      by_cases h2 : b < a
      · rw [if_pos h2, if_neg h1, if_pos h2]
      · rw [if_neg h2, if_neg h2, if_neg h1, cmpL_swap x y]
theorem cmpL_app : ∀ p a b, cmpL (p ++ a) (p ++ b) = cmpL a b
  | [], _, _ => rfl
  | c :: p, a, b => by
    show (if c < c then -1 else if c < c then 1 else cmpL (p ++ a) (p ++ b)) = _
    rw [if_neg (by omega), if_neg (by omega), cmpL_app p a b]
theorem cmpL_ext (p : List Int) (c : Int) (s : List Int) : cmpL p (p ++ c :: s) = -1 := by
  have := cmpL_app p [] (c :: s)
  rw [List.append_nil] at this
  rw [this]; rfl
theorem way_ext {f : List Node} (hr : Right f) {x : Int} : ∀ k, isN f k → x ∈ allL f k → ∃ s, way f x = way f k ++ s := by
  refine kid_ind hr fun h hh ih hx => ?_
  rw [all_in hr hh] at hx
  rcases List.mem_cons.1 hx with rfl | hx
  · exact ⟨[], by rw [List.append_nil]⟩
  · obtain ⟨k, hk, hx⟩ := List.mem_flatMap.1 hx
    obtain ⟨s, hs⟩ := ih k hk hx
    obtain ⟨_, h1, e, _⟩ := kid_in hr hk
    refine ⟨plc f k :: s, ?_⟩
    rw [hs, way_in hr h1, e, List.append_assoc]; rfl
theorem plc_kid {f : List Node} {h : Int} (hr : Right f) (hh : isN f h) {i : Nat} (hi : i < (kidsL f h).length) : plc f (kidsL f h)[i] = i := by
  have hm : (kidsL f h)[i] ∈ kidsL f h := List.getElem_mem hi
  unfold plc
  rw [(kid_in hr hm).2.2.1, idx_at (links_lk hr hh).nodup hi]; omega
theorem all_sorted {f : List Node} (hr : Right f) : ∀ h, isN f h → (allL f h).Pairwise (fun x y => cmpL (way f x) (way f y) = -1) := by
  refine kid_ind hr fun h hh ih => ?_
  rw [all_in hr hh, List.pairwise_cons, List.pairwise_flatMap]
  refine ⟨fun x hx => ?_, fun k hk => ih k hk, ?_⟩
  · obtain ⟨k, hk, hx⟩ := List.mem_flatMap.1 hx
    obtain ⟨_, h1, e, _⟩ := kid_in hr hk
    obtain ⟨s, hs⟩ := way_ext hr k h1 hx
    rw [hs, way_in hr h1, e, List.append_assoc]
    exact cmpL_ext _ _ _
  · rw [List.pairwise_iff_getElem]
    intro i j hi hj hij x hx y hy
    have hmi := kid_in hr (List.getElem_mem hi)
    have hmj := kid_in hr (List.getElem_mem hj)
    obtain ⟨s, hs⟩ := way_ext hr _ hmi.2.1 hx
    obtain ⟨t, ht⟩ := way_ext hr _ hmj.2.1 hy
    rw [hs, ht, way_in hr hmi.2.1, way_in hr hmj.2.1, hmi.2.2.1, hmj.2.2.1, plc_kid hr hh hi, plc_kid hr hh hj, List.append_assoc, List.append_assoc, cmpL_app]
    show (if (i : Int) < (j : Int) then (-1 : Int) else _) = -1
    rw [if_pos (by omega)]
def cmpI (m n : Int) : Int := if m < n then -1 else if n < m then 1 else 0
theorem cmp_all {f : List Node} (hr : Right f) {h a b : Int} (hh : isN f h) (ha : a ∈ allL f h) (hb : b ∈ allL f h) : cmpL (way f a) (way f b) = cmpI (idx (allL f h) a) (idx (allL f h) b) := by
  obtain ⟨i, hi, rfl, e1⟩ := idx_get ha
  obtain ⟨j, hj, rfl, e2⟩ := idx_get hb
  have hs := List.pairwise_iff_getElem.1 (all_sorted hr h hh)
  rw [e1, e2]
  unfold cmpI
  rcases Nat.lt_trichotomy i j with hl | rfl | hl
  · rw [if_pos (by omega), hs i j hi hj hl]
  · rw [if_neg (by omega), if_neg (by omega), cmpL_self]
  · rw [if_neg (by omega), if_pos (by omega), cmpL_swap, hs j i hj hi hl]; rfl
end Go.Proofs.Ytfleilibjdgcjaa.O
