/- Shaken copy of a longer text: what one law needs. Its conditions: none. -/
import Derived.Test.YtejglgffianhgaaDoorZNSpNm3
set_option linter.unusedSimpArgs false
set_option linter.unusedVariables false
set_option linter.unusedSimpArgs false
set_option linter.unusedVariables false
set_option linter.unusedSectionVars false
set_option linter.unnecessarySimpa false
namespace Go.Proofs.YtejglgffianhgaaDoor.N
open Go.AI Go.Lib
def ncB (s : List UInt8) : Bool := nameB s && !(s.any fun b => b == 58)
theorem nc_prg (s : List UInt8) (hs : s.length ≤ 2 ^ 40) : pc prog 19 [.str s] = some (.bool (ncB s)) := by
  refine ok19 s _ ?_
  unfold P19 ncB
  rw [name_prg s hs, dec_one (e := D.bool), Option.bind_some, contains_run, dec_one (e := D.bool), Option.bind_some]
  cases nameB s <;> rfl
def qB (s : List UInt8) : Bool := match at1 58 s with | none => ncB s | some k => ncB (s.take k) && ncB (s.drop (k + 1))
theorem q_prg (s : List UInt8) (hs : s.length ≤ 2 ^ 40) : pc prog 21 [.str s] = some (.bool (qB s)) := by
  refine ok21 s _ ?_
  unfold P21 qB
  rw [cut_run s 58 hs, dec_one (e := eT3 D.str D.str D.bool), Option.bind_some]
  unfold cutR
  rcases h : at1 58 s with _ | k
  · simp only [Bool.not_false, if_true, nc_prg s hs, dec_one (e := D.bool), Option.bind_some]
  · have h1 := nc_prg (s.take k) (by rw [List.length_take]; omega)
    have h2 := nc_prg (s.drop (k + 1)) (by rw [List.length_drop]; omega)
    simp only [Bool.not_true, Bool.false_eq_true, if_false, h1, h2, dec_one (e := D.bool), Option.bind_some]
    cases ncB (s.take k) <;> rfl
def splitB (s : List UInt8) : List UInt8 × List UInt8 := match at1 58 s with | none => ([], s) | some k => if qB s = true then (s.take k, s.drop (k + 1)) else ([], s)
theorem split_prg (s : List UInt8) (hs : s.length ≤ 2 ^ 40) : pc prog 20 [.str s] = some (eT2 D.str D.str (splitB s)) := by
  refine ok20 s _ ?_
  unfold P20 splitB
  rw [cut_run s 58 hs, dec_one (e := eT3 D.str D.str D.bool), Option.bind_some]
  unfold cutR
  rcases h : at1 58 s with _ | k
  · simp
  · simp only [if_true, q_prg s hs, dec_one (e := D.bool), Option.bind_some]
    cases qB s <;> rfl
theorem among_prg (l : Sl (List UInt8)) (s : List UInt8) (hl : l.l.length ≤ 1000) : pc prog 62 [.list l.n (l.l.map D.str), .str s] = some (.bool (l.l.any fun x => s == x)) := by
  refine ok62 l s _ ?_
  unfold P62
  rw [ok92 l s (ixI (l.l.findIdx? fun x => s == x)) ?_, dec_one (e := D.int .i64), Option.bind_some]
  · rcases hf : l.l.findIdx? (fun x => s == x) with _ | j
    · have : (l.l.any fun x => s == x) = false := by
        rw [List.findIdx?_eq_none_iff] at hf
        simpa using hf
      rw [this]; rfl
    · have : (l.l.any fun x => s == x) = true := by
        rw [List.findIdx?_eq_some_iff_getElem] at hf
        obtain ⟨g1, g2, -⟩ := hf
        exact List.any_eq_true.2 ⟨_, List.getElem_mem g1, g2⟩
      rw [this]; simp [ixI]
  · unfold P92
    rw [find_loop (l := l.l) (fun x => s == x) (fun k => Sum.inr (k : Int)) (Sum.inl ()) ?_ ?_, Option.bind_some]
    · unfold ixI
      rcases List.findIdx? (fun x => s == x) l.l with _ | k <;> rfl
    · intro k hk
      have hw := wrap_nat (show k < 2 ^ 62 by omega)
      simp only [L92_0_step, rd_nat hk, Option.bind_some, hw]
      rw [if_pos (by simp; omega)]
      split <;> rfl
    · simp only [L92_0_step]
      rw [if_neg (by simp)]
end Go.Proofs.YtejglgffianhgaaDoor.N
