/- Shaken copy of a longer text: what one law needs. Its conditions: none. -/
import Derived.Test.YtfleilibjdgcjaaZODecO
import Derived.Test.YtfleilibjdgcjaaZOSpLoops
set_option linter.unusedSimpArgs false
set_option linter.unusedVariables false
set_option linter.unusedSimpArgs false
set_option linter.unusedVariables false
set_option linter.unusedSectionVars false
set_option linter.unnecessarySimpa false
namespace Go.Proofs.Ytfleilibjdgcjaa.O
open Go.AI
theorem w64 {n : Int} (h1 : -9223372036854775808 ≤ n) (h2 : n ≤ 9223372036854775807) : IntKind.i64.wrap n = n := by rw [IntKind.wrap_i64]; omega
theorem bor {a b : Bool} : (bif a then true else b) = (a || b) := by cases a <;> rfl
theorem band {a b : Bool} : (bif a then b else false) = (a && b) := by cases a <;> rfl
def nd0 : Node := ⟨0, ⟨[], [], []⟩, [], [], ⟨true, []⟩, ⟨true, []⟩, 0, ⟨true, []⟩, 0, 0, 0, 0, false, false⟩
def nodeO (f : List Node) (h : Int) : Option Node := if 1 ≤ h then f[(h - 1).toNat]? else none
def nodeD (f : List Node) (h : Int) : Node := (nodeO f h).getD nd0
theorem nodeO_some {f : List Node} {h : Int} {n : Node} (e : nodeO f h = some n) : 1 ≤ h ∧ h ≤ f.length ∧ f[(h - 1).toNat]? = some n := by
  unfold nodeO at e
  split at e
  · rename_i h1
    rcases Nat.lt_or_ge (h - 1).toNat f.length with h2 | h2
    · exact ⟨h1, by omega, e⟩
    · rw [List.getElem?_eq_none h2] at e; cases e
  · cases e
theorem nodeO_none {f : List Node} {h : Int} (e : nodeO f h = none) : h < 1 ∨ (f.length : Int) < h := by
  unfold nodeO at e
  split at e
  · right
    rw [List.getElem?_eq_none_iff] at e; omega
  · left; omega
theorem nodeO_in {f : List Node} {h : Int} (h1 : 1 ≤ h) (h2 : h ≤ f.length) : ∃ n, nodeO f h = some n := by
  unfold nodeO
  rw [if_pos h1]
  exact ⟨_, List.getElem?_eq_getElem (by omega)⟩
theorem nodeO_nat {f : List Node} {k : Nat} (h : k < f.length) : nodeO f ((k : Int) + 1) = some f[k] := by
  unfold nodeO
  rw [if_pos (by omega), show ((k : Int) + 1 - 1).toNat = k by omega, List.getElem?_eq_getElem h]
theorem rd_node {f : List Node} {h : Int} {n : Node} (e : nodeO f h = some n) : rd f (h - 1) = some n := by
  obtain ⟨h1, h2, h3⟩ := nodeO_some e
  unfold rd
  rw [if_pos (by omega)]; exact h3
theorem node_cases (f : List Node) (h : Int) (hf : f.length ≤ 2 ^ 40) : (if (bif (decide (h < 1)) then true else (decide ((f.length : Int) < h))) = true then some (nd0, false) else (rd f (IntKind.wrap .i64 (h - 1))).bind fun y3 => some (y3, true)) = some (nodeD f h, (nodeO f h).isSome) := by
  unfold nodeD
  rcases e : nodeO f h with _ | n
  · rcases nodeO_none e with h1 | h1
    · simp [h1]
    · rw [bor, if_pos (by simp [h1])]; rfl
  · obtain ⟨h1, h2, _⟩ := nodeO_some e
    rw [bor, if_neg (by simp; omega), w64 (by omega) (by omega), rd_node e]; rfl
theorem node_prg (f : Forest) (h : Int) (hf : f.nodes.l.length ≤ 2 ^ 40) : pc prog 219 [eForest f, .int .i64 h] = some (eT2 eNode D.bool (nodeD f.nodes.l h, (nodeO f.nodes.l h).isSome)) := by
  refine ok219 f h _ ?_
  unfold P219
  exact node_cases f.nodes.l h hf
theorem kind_prg (f : Forest) (h : Int) (hf : f.nodes.l.length ≤ 2 ^ 40) : pc prog 221 [eForest f, .int .i64 h] = some (.int .u8 (nodeD f.nodes.l h).kind) := by
  refine ok221 f h _ ?_
  unfold P221
  rw [node_prg f h hf, dec_one (e := eT2 eNode D.bool)]; rfl
def aboveN (n : Node) : Int := if n.kind == 12 then n.host else n.parent
theorem above_prg (n : Node) : pc prog 214 [eNode n] = some (.int .i64 (aboveN n)) := by
  refine ok214 n _ ?_
  unfold P214 aboveN
  split <;> rfl
def dataK (k : Int) : Bool := k == 3 || k == 4 || k == 7 || k == 8
def kidsK (k : Int) : Bool := k == 1 || k == 9 || k == 11 || k == 12
def knownK (k : Int) : Bool := dataK k || kidsK k || k == 10
def traitK (k : Int) : forest_trait := ⟨knownK k, dataK k, kidsK k, k == 1 || dataK k || k == 10, k == 1, k == 7 || k == 10⟩
theorem traits_prg (k : Int) : pc prog 215 [.int .u8 k] = some (eforest_trait (traitK k)) := by
  refine ok215 k _ ?_
  unfold P215 traitK knownK dataK kidsK
  by_cases h1 : k = 1
  · subst h1; rfl
  by_cases h3 : k = 3
  · subst h3; rfl
  by_cases h4 : k = 4
  · subst h4; rfl
  by_cases h8 : k = 8
  · subst h8; rfl
  by_cases h7 : k = 7
  · subst h7; rfl
  by_cases h10 : k = 10
  · subst h10; rfl
  by_cases h9 : k = 9
  · subst h9; rfl
  by_cases h11 : k = 11
  · subst h11; rfl
  by_cases h12 : k = 12
  · subst h12; rfl
  simp [h1, h3, h4, h8, h7, h10, h9, h11, h12]
def shortB (l : List (List UInt8)) : Bool := l.all fun s => decide (s.length ≤ 1024)
theorem short_prg (l : Sl (List UInt8)) (hl : l.l.length ≤ 1000) : pc prog 218 [.list l.n (l.l.map D.str)] = some (.bool (shortB l.l)) := by
  refine ok218 l _ ?_
  unfold P218
  rw [any_loop (l := l.l) (fun s => decide (1024 < s.length)) (Sum.inr ()) (Sum.inl ()) ?_ ?_, Option.bind_some]
  · have : shortB l.l = !(l.l.any fun s => decide (1024 < s.length)) := by
      unfold shortB
      rw [List.all_eq_not_any_not]
      congr 2
      funext s
      rw [← decide_not]; simp
    rw [this]
    cases (l.l.any fun s => decide (1024 < s.length)) <;> rfl
  · intro k hk
    have hw := wrap_nat (show k < 2 ^ 62 by omega)
    simp only [L218_0_step, rd_nat hk, Option.bind_some, hw]
    rw [if_pos (decide_eq_true (by omega)), show decide ((1024 : Int) < (l.l[k].length : Int)) = decide (1024 < l.l[k].length) by rw [decide_eq_decide]; omega]
    split <;> rfl
  · simp only [L218_0_step]
    rw [if_neg (by simp)]
theorem short_list (l : List (List UInt8)) (hl : l.length ≤ 1000) : pc prog 218 [.list false (l.map D.str)] = some (.bool (shortB l)) := short_prg ⟨false, l⟩ hl
def namedB (n : Name) : Bool := !(n.local_ == []) && decide (n.space.length ≤ 1024) && decide (n.prefix_.length ≤ 1024) && decide (n.local_.length ≤ 1024) && (n.prefix_ == [] || !(n.space == []))
theorem named_prg (n : Name) : pc prog 229 [eName n] = some (.bool (namedB n)) := by
  refine ok229 n _ ?_
  unfold P229 namedB
  rw [short_list _ (by simp), dec_one (e := D.bool), Option.bind_some]
  simp only [bor, shortB, List.all_cons, List.all_nil, Bool.and_true]
  cases (n.local_ == []) <;> cases decide (n.space.length ≤ 1024) <;> cases decide (n.prefix_.length ≤ 1024) <;> cases decide (n.local_.length ≤ 1024) <;> rfl
theorem key_prg (n : Name) : pc prog 230 [eName n] = some (eforest_key ⟨n.space, n.local_⟩) := ok230 n _ rfl
def sameA (n : Name) (a : Attr) : Bool := a.name.space == n.space && a.name.local_ == n.local_
def attrsG : List Attr → List Attr → Bool
  | _, [] => true
  | pre, a :: r => namedB a.name && decide (a.value.length ≤ 4096) && !(pre.any (sameA a.name)) && attrsG (pre ++ [a]) r
def attrsB (l : List Attr) : Bool := decide (l.length ≤ 64) && attrsG [] l
end Go.Proofs.Ytfleilibjdgcjaa.O
