/- Shaken copy of a longer text: what one law needs. Its conditions: none. -/
import Derived.Test.YtejglgffianhgaaDoorZNDecN
import Derived.Test.YtejglgffianhgaaDoorZNSpNm0
import Derived.Test.YtejglgffianhgaaDoorZNSpLoops
set_option linter.unusedSimpArgs false
set_option linter.unusedVariables false
set_option linter.unusedSimpArgs false
set_option linter.unusedVariables false
set_option linter.unusedSectionVars false
set_option linter.unnecessarySimpa false
namespace Go.Proofs.YtejglgffianhgaaDoor.N
open Go.AI Go.Lib
theorem w64 {n : Int} (h1 : -9223372036854775808 ≤ n) (h2 : n ≤ 9223372036854775807) : IntKind.i64.wrap n = n := by rw [IntKind.wrap_i64]; omega
theorem w32 {n : Int} (h1 : -2147483648 ≤ n) (h2 : n ≤ 2147483647) : IntKind.i32.wrap n = n := by rw [IntKind.wrap_i32]; omega
def spanIn (r : Int) (s : names_span) : Bool := decide (s.from_ ≤ r) && decide (r ≤ s.to)
def farL : List names_span := [⟨0x37f, 0x1fff⟩, ⟨0x200c, 0x200d⟩, ⟨0x2070, 0x218f⟩, ⟨0x2c00, 0x2fef⟩, ⟨0x3001, 0xd7ff⟩, ⟨0xf900, 0xfdcf⟩, ⟨0xfdf0, 0xfffd⟩, ⟨0x10000, 0xeffff⟩]
theorem far_run : pc prog 53 [] = some (eSl enames_span ⟨false, farL⟩) := pc_run 20 (by kernel_rfl)
theorem among_run (r : Int) (l : Sl names_span) (hl : l.l.length ≤ 1000) : pc prog 52 [.int .i32 r, .list l.n (l.l.map enames_span)] = some (.bool (l.l.any (spanIn r))) := by
  refine ok52 r l _ ?_
  unfold P52
  rw [find_loop (l := l.l) (spanIn r) (fun k => Sum.inr (k : Int)) (Sum.inl ()) ?_ ?_, Option.bind_some]
  · rcases hf : l.l.findIdx? (spanIn r) with _ | j
    · have : l.l.any (spanIn r) = false := by
        rw [List.findIdx?_eq_none_iff] at hf
        simpa using hf
      rw [this]
    · have : l.l.any (spanIn r) = true := by
        rw [List.findIdx?_eq_some_iff_getElem] at hf
        obtain ⟨g1, g2, -⟩ := hf
        exact List.any_eq_true.2 ⟨_, List.getElem_mem g1, g2⟩
      rw [this]; simp
  · intro k hk
    have hw := wrap_nat (show k < 2 ^ 62 by omega)
    simp only [L52_0_step, rd_nat hk, Option.bind_some, hw, spanIn]
    rw [if_pos (by simp; omega)]
    by_cases c1 : (l.l[k]).from_ ≤ r <;> by_cases c2 : r ≤ (l.l[k]).to <;> simp [c1, c2]
  · simp only [L52_0_step]
    rw [if_neg (by simp)]
def startR (r : Int) : Bool := decide (r = 58 ∨ r = 95 ∨ (65 ≤ r ∧ r ≤ 90) ∨ (97 ≤ r ∧ r ≤ 122) ∨ (192 ≤ r ∧ r ≤ 214) ∨ (216 ≤ r ∧ r ≤ 246) ∨ (248 ≤ r ∧ r ≤ 767) ∨ (880 ≤ r ∧ r ≤ 893) ∨ (0x37f ≤ r ∧ r ≤ 0x1fff) ∨ (0x200c ≤ r ∧ r ≤ 0x200d) ∨ (0x2070 ≤ r ∧ r ≤ 0x218f) ∨ (0x2c00 ≤ r ∧ r ≤ 0x2fef) ∨ (0x3001 ≤ r ∧ r ≤ 0xd7ff) ∨ (0xf900 ≤ r ∧ r ≤ 0xfdcf) ∨ (0xfdf0 ≤ r ∧ r ≤ 0xfffd) ∨ (0x10000 ≤ r ∧ r ≤ 0xeffff))
def partR (r : Int) : Bool := startR r || decide (r = 45 ∨ r = 46 ∨ (48 ≤ r ∧ r ≤ 57) ∨ r = 183 ∨ (768 ≤ r ∧ r ≤ 879) ∨ (8255 ≤ r ∧ r ≤ 8256))
def smallR (r : Int) : Bool := decide (97 ≤ r ∧ r ≤ 122)
def pcenR (r : Int) : Bool := smallR r || decide (r = 45 ∨ r = 46 ∨ r = 95 ∨ (48 ≤ r ∧ r ≤ 57) ∨ r = 183 ∨ (192 ≤ r ∧ r ≤ 214) ∨ (216 ≤ r ∧ r ≤ 246) ∨ (248 ≤ r ∧ r ≤ 893) ∨ (8255 ≤ r ∧ r ≤ 8256) ∨ (0x37f ≤ r ∧ r ≤ 0x1fff) ∨ (0x200c ≤ r ∧ r ≤ 0x200d) ∨ (0x2070 ≤ r ∧ r ≤ 0x218f) ∨ (0x2c00 ≤ r ∧ r ≤ 0x2fef) ∨ (0x3001 ≤ r ∧ r ≤ 0xd7ff) ∨ (0xf900 ≤ r ∧ r ≤ 0xfdcf) ∨ (0xfdf0 ≤ r ∧ r ≤ 0xfffd) ∨ (0x10000 ≤ r ∧ r ≤ 0xeffff))
def startL : List names_span := [⟨58, 58⟩, ⟨95, 95⟩, ⟨65, 90⟩, ⟨97, 122⟩, ⟨192, 214⟩, ⟨216, 246⟩, ⟨248, 767⟩, ⟨880, 893⟩]
def partL : List names_span := [⟨45, 45⟩, ⟨46, 46⟩, ⟨48, 57⟩, ⟨183, 183⟩, ⟨768, 879⟩, ⟨8255, 8256⟩]
def pcenL : List names_span := [⟨45, 45⟩, ⟨46, 46⟩, ⟨95, 95⟩, ⟨48, 57⟩, ⟨183, 183⟩, ⟨192, 214⟩, ⟨216, 246⟩, ⟨248, 893⟩, ⟨8255, 8256⟩]
theorem start_spans (r : Int) : (startL.any (spanIn r) || farL.any (spanIn r)) = startR r := by
  rw [Bool.eq_iff_iff]
  simp only [startL, farL, startR, spanIn, List.any_cons, List.any_nil, Bool.or_eq_true, Bool.and_eq_true, decide_eq_true_eq, Bool.false_eq_true, or_false]
  omega
theorem part_spans (r : Int) : (startR r || partL.any (spanIn r)) = partR r := by
  unfold partR
  congr 1
  rw [Bool.eq_iff_iff]
  simp only [partL, spanIn, List.any_cons, List.any_nil, Bool.or_eq_true, Bool.and_eq_true, decide_eq_true_eq, Bool.false_eq_true, or_false]
  omega
theorem pcen_spans (r : Int) : (smallR r || (pcenL.any (spanIn r) || farL.any (spanIn r))) = pcenR r := by
  unfold pcenR
  congr 1
  rw [Bool.eq_iff_iff]
  simp only [pcenL, farL, spanIn, List.any_cons, List.any_nil, Bool.or_eq_true, Bool.and_eq_true, decide_eq_true_eq, Bool.false_eq_true, or_false]
  omega
theorem among_start (r : Int) : pc prog 52 [.int .i32 r, .list false (startL.map enames_span)] = some (.bool (startL.any (spanIn r))) := among_run r ⟨false, startL⟩ (by decide)
theorem among_part (r : Int) : pc prog 52 [.int .i32 r, .list false (partL.map enames_span)] = some (.bool (partL.any (spanIn r))) := among_run r ⟨false, partL⟩ (by decide)
theorem among_pcen (r : Int) : pc prog 52 [.int .i32 r, .list false (pcenL.map enames_span)] = some (.bool (pcenL.any (spanIn r))) := among_run r ⟨false, pcenL⟩ (by decide)
theorem among_far (r : Int) : pc prog 52 [.int .i32 r, .list false (farL.map enames_span)] = some (.bool (farL.any (spanIn r))) := among_run r ⟨false, farL⟩ (by decide)
theorem start_prg (r : Int) : pc prog 13 [.int .i32 r] = some (.bool (startR r)) := by
  refine ok13 r _ ?_
  unfold P13
  simp only [far_run, dec_eq Inj.inj, Option.bind_some, among_far]
  rw [show (([(⟨58, 58⟩ : names_span), (⟨95, 95⟩ : names_span), (⟨65, 90⟩ : names_span), (⟨97, 122⟩ : names_span), (⟨192, 214⟩ : names_span), (⟨216, 246⟩ : names_span), (⟨248, 767⟩ : names_span), (⟨880, 893⟩ : names_span)]).map enames_span) = startL.map enames_span from rfl, among_start]
  simp only [dec_eq (e := D.bool) Inj.inj, Option.bind_some]
  rw [← start_spans]
  cases startL.any (spanIn r) <;> rfl
theorem part_prg (r : Int) : pc prog 15 [.int .i32 r] = some (.bool (partR r)) := by
  refine ok15 r _ ?_
  unfold P15
  rw [start_prg]
  rw [show (([(⟨45, 45⟩ : names_span), (⟨46, 46⟩ : names_span), (⟨48, 57⟩ : names_span), (⟨183, 183⟩ : names_span), (⟨768, 879⟩ : names_span), (⟨8255, 8256⟩ : names_span)]).map enames_span) = partL.map enames_span from rfl, among_part]
  simp only [dec_eq (e := D.bool) Inj.inj, Option.bind_some]
  rw [← part_spans]
  cases startR r <;> rfl
end Go.Proofs.YtejglgffianhgaaDoor.N
