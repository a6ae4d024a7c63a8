/- Shaken copy of a longer text: what one law needs. Its conditions: none. -/
import Derived.Test.YtejglgffianhgaaDoorZNSpNm4
set_option linter.unusedSimpArgs false
set_option linter.unusedVariables false
set_option linter.unusedSimpArgs false
set_option linter.unusedVariables false
set_option linter.unusedSectionVars false
set_option linter.unnecessarySimpa false
namespace Go.Proofs.YtejglgffianhgaaDoor.N
open Go.AI Go.Lib
def takenL : List (List UInt8) := [[97, 110, 110, 111, 116, 97, 116, 105, 111, 110, 45, 120, 109, 108], [99, 111, 108, 111, 114, 45, 112, 114, 111, 102, 105, 108, 101], [102, 111, 110, 116, 45, 102, 97, 99, 101], [102, 111, 110, 116, 45, 102, 97, 99, 101, 45, 115, 114, 99], [102, 111, 110, 116, 45, 102, 97, 99, 101, 45, 117, 114, 105], [102, 111, 110, 116, 45, 102, 97, 99, 101, 45, 102, 111, 114, 109, 97, 116], [102, 111, 110, 116, 45, 102, 97, 99, 101, 45, 110, 97, 109, 101], [109, 105, 115, 115, 105, 110, 103, 45, 103, 108, 121, 112, 104]]
def knownL : List (List UInt8) := [[97, 114, 116, 105, 99, 108, 101], [97, 115, 105, 100, 101], [98, 108, 111, 99, 107, 113, 117, 111, 116, 101], [98, 111, 100, 121], [100, 105, 118], [102, 111, 111, 116, 101, 114], [104, 49], [104, 50], [104, 51], [104, 52], [104, 53], [104, 54], [104, 101, 97, 100, 101, 114], [109, 97, 105, 110], [110, 97, 118], [112], [115, 101, 99, 116, 105, 111, 110], [115, 112, 97, 110]]
theorem taken_prg (s : List UInt8) : pc prog 62 [.list false (takenL.map D.str), .str s] = some (.bool (takenL.any fun x => s == x)) := among_prg ⟨false, takenL⟩ s (by decide)
theorem known_prg (s : List UInt8) : pc prog 62 [.list false (knownL.map D.str), .str s] = some (.bool (knownL.any fun x => s == x)) := among_prg ⟨false, knownL⟩ s (by decide)
def customB (s : List UInt8) : Bool := everyB smallR pcenR s && (s.any fun b => b == 45) && !(takenL.any fun x => s == x)
def hostsB (s : List UInt8) : Bool := customB s || knownL.any fun x => s == x
theorem custom_prg (s : List UInt8) (hs : s.length ≤ 2 ^ 40) : pc prog 26 [.str s] = some (.bool (customB s)) := by
  refine ok26 s _ ?_
  unfold P26
  rw [every_loop (s := s) smallR pcenR ?_ ?_, Option.bind_some]
  · unfold customB everyB
    rcases hr : runes s with _ | ⟨r, t⟩
    · have := (runes_eq_nil s).1 hr
      subst this
      rfl
    · have hne : s ≠ [] := fun h => by subst h; cases hr
      have hb : (!(s == [])) = true := by simpa using hne
      dsimp only
      by_cases hc : (smallR r && pcenR r && t.all pcenR) = true
      · rw [if_pos hc, hc]
        dsimp only
        rw [show ([[97, 110, 110, 111, 116, 97, 116, 105, 111, 110, 45, 120, 109, 108], [99, 111, 108, 111, 114, 45, 112, 114, 111, 102, 105, 108, 101], [102, 111, 110, 116, 45, 102, 97, 99, 101], [102, 111, 110, 116, 45, 102, 97, 99, 101, 45, 115, 114, 99], [102, 111, 110, 116, 45, 102, 97, 99, 101, 45, 117, 114, 105], [102, 111, 110, 116, 45, 102, 97, 99, 101, 45, 102, 111, 114, 109, 97, 116], [102, 111, 110, 116, 45, 102, 97, 99, 101, 45, 110, 97, 109, 101], [109, 105, 115, 115, 105, 110, 103, 45, 103, 108, 121, 112, 104]] : List (List UInt8)).map D.str = takenL.map D.str from rfl]
        rw [if_pos hb, valid_run s hs, dec_one (e := D.bool), Option.bind_some, contains_run, dec_one (e := D.bool), Option.bind_some, taken_prg, dec_one (e := D.bool), Option.bind_some]
        cases validD s <;> cases (s.any fun b => b == 45) <;> rfl
      · rw [if_neg hc]
        simp only [Bool.not_eq_true] at hc
        rw [hc]; simp
  · intro pos hp
    unfold L26_0_step
    rw [if_pos (by simpa using hp), dcr_drop]
    generalize ((decodeL (s.drop pos)).1 : Int) = r
    rw [show (([(⟨45, 45⟩ : names_span), (⟨46, 46⟩ : names_span), (⟨95, 95⟩ : names_span), (⟨48, 57⟩ : names_span), (⟨183, 183⟩ : names_span), (⟨192, 214⟩ : names_span), (⟨216, 246⟩ : names_span), (⟨248, 893⟩ : names_span), (⟨8255, 8256⟩ : names_span)]).map enames_span) = pcenL.map enames_span from rfl]
    have es : (bif (decide (97 ≤ r)) then (decide (r ≤ 122)) else false) = smallR r := by
      rw [Bool.eq_iff_iff]; simp [smallR, cond_eq_ite]
    simp only [es, among_pcen, far_run, dec_one (e := D.bool), dec_one (e := eSl enames_span), among_far, Option.bind_some]
    have e2 := pcen_spans r
    by_cases h0 : pos = 0
    · subst h0
      rw [if_pos rfl]
      cases hsm : smallR r with
      | true => rw [small_pcen hsm]; rfl
      | false => rfl
    · rw [if_neg (by simp only [beq_iff_eq]; omega), if_neg h0, ← e2]
      cases smallR r <;> cases pcenL.any (spanIn r) <;> cases farL.any (spanIn r) <;> rfl
  · intro pos hp
    unfold L26_0_step
    rw [if_neg (by simpa using hp)]
theorem hosts_prg (s : List UInt8) (hs : s.length ≤ 2 ^ 40) : pc prog 28 [.str s] = some (.bool (hostsB s)) := by
  refine ok28 s _ ?_
  unfold P28 hostsB
  rw [show ([[97, 114, 116, 105, 99, 108, 101], [97, 115, 105, 100, 101], [98, 108, 111, 99, 107, 113, 117, 111, 116, 101], [98, 111, 100, 121], [100, 105, 118], [102, 111, 111, 116, 101, 114], [104, 49], [104, 50], [104, 51], [104, 52], [104, 53], [104, 54], [104, 101, 97, 100, 101, 114], [109, 97, 105, 110], [110, 97, 118], [112], [115, 101, 99, 116, 105, 111, 110], [115, 112, 97, 110]] : List (List UInt8)).map D.str = knownL.map D.str from rfl, custom_prg s hs, known_prg]
  simp only [dec_one (e := D.bool), Option.bind_some]
  cases customB s <;> rfl
def qualB (n : Name) : List UInt8 := if n.prefix_ == [] then n.local_ else (n.prefix_ ++ [58]) ++ n.local_
theorem qual_len (n : Name) : (qualB n).length ≤ n.prefix_.length + n.local_.length + 1 := by
  unfold qualB
  split
  · omega
  · simp only [List.length_append, List.length_cons, List.length_nil]; omega
theorem qual_prg (n : Name) (h1 : n.prefix_.length ≤ 2 ^ 40) (h2 : n.local_.length ≤ 2 ^ 40) : pc prog 31 [eName n] = some (.str (qualB n)) := by
  refine ok31 n _ ?_
  unfold P31 qualB
  cases (n.prefix_ == [])
  · rw [if_neg (by simp), if_pos (by simp only [maxStr, List.length_cons, List.length_nil]; omega), if_pos (by simp only [maxStr, List.length_append, List.length_cons, List.length_nil]; omega)]
    rfl
  · rfl
def validB (s : List UInt8) : Int := if 1024 < s.length then 4 else if qB s = true then 0 else 12
theorem validate_prg (s : List UInt8) (hs : s.length ≤ 2 ^ 40) : pc prog 33 [.str s] = some (.int .i64 (validB s)) := by
  refine ok33 s _ ?_
  unfold P33 validB
  rw [q_prg s hs, dec_one (e := D.bool), Option.bind_some]
  by_cases h : 1024 < s.length
  · rw [if_pos h, if_pos (by simp; omega)]
  · rw [if_neg h, if_neg (by simp; omega)]
    cases qB s <;> rfl
def xmlL : List UInt8 := [120, 109, 108]
def xmlnsL : List UInt8 := [120, 109, 108, 110, 115]
def spXml : List UInt8 := [104, 116, 116, 112, 58, 47, 47, 119, 119, 119, 46, 119, 51, 46, 111, 114, 103, 47, 88, 77, 76, 47, 49, 57, 57, 56, 47, 110, 97, 109, 101, 115, 112, 97, 99, 101]
def spXmlns : List UInt8 := [104, 116, 116, 112, 58, 47, 47, 119, 119, 119, 46, 119, 51, 46, 111, 114, 103, 47, 50, 48, 48, 48, 47, 120, 109, 108, 110, 115, 47]
def extractB (a q : List UInt8) : Name × Int :=
  if 1024 < a.length then (⟨[], [], []⟩, 4) else if validB q ≠ 0 then (⟨[], [], []⟩, validB q) else
  if (!((splitB q).1 == []) && a == []) || ((splitB q).1 == xmlL && !(a == spXml)) || !((q == xmlnsL || (splitB q).1 == xmlnsL) == (a == spXmlns)) then (⟨[], [], []⟩, 13) else (⟨a, (splitB q).1, (splitB q).2⟩, 0)
theorem extract_prg (a q : List UInt8) (h1 : a.length ≤ 2 ^ 40) (h2 : q.length ≤ 2 ^ 40) : pc prog 35 [.str a, .str q] = some (eT2 eName (D.int .i64) (extractB a q)) := by
  refine ok35 a q _ ?_
  unfold P35 extractB
  rw [validate_prg q h2, dec_one (e := D.int .i64), Option.bind_some, split_prg q h2, dec_one (e := eT2 D.str D.str), Option.bind_some, ← xmlL, ← xmlnsL, ← spXml, ← spXmlns]
  by_cases h : 1024 < a.length
  · rw [if_pos h, if_pos (by simp; omega)]
  rw [if_neg h, if_neg (by simp; omega)]
  by_cases hv : validB q = 0
  · rw [hv, if_neg (show ¬ (!((0 : Int) == 0)) = true by decide), if_neg (show ¬ ((0 : Int) ≠ 0) by decide)]
    cases ((splitB q).1 == []) <;> cases (a == []) <;> cases ((splitB q).1 == xmlL) <;> cases (a == spXml) <;> cases (q == xmlnsL) <;> cases ((splitB q).1 == xmlnsL) <;> cases (a == spXmlns) <;> rfl
  · rw [if_pos (show (!(validB q == 0)) = true by simpa using hv), if_pos (show validB q ≠ 0 from hv)]
def rightB (n : Name) : Bool := (extractB n.space (qualB n)).2 == 0 && decide ((extractB n.space (qualB n)).1 = n)
theorem right_prg (n : Name) (h0 : n.space.length ≤ 2 ^ 30) (h1 : n.prefix_.length ≤ 2 ^ 30) (h2 : n.local_.length ≤ 2 ^ 30) : pc prog 37 [eName n] = some (.bool (rightB n)) := by
  refine ok37 n _ ?_
  have := qual_len n
  unfold P37 rightB
  rw [qual_prg n (by omega) (by omega), dec_one (e := D.str), Option.bind_some, extract_prg _ _ (by omega) (by omega), dec_one (e := eT2 eName (D.int .i64)), Option.bind_some]
  cases ((extractB n.space (qualB n)).2 == 0) <;> rfl
theorem begins_true : pc prog 17 [] = some (.bool true) := pc_run 60 (by kernel_rfl)
end Go.Proofs.YtejglgffianhgaaDoor.N
