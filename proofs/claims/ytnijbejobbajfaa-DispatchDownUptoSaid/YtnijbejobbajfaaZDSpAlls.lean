/- Shaken copy of a longer text: what one law needs. Its conditions: none. -/
import Derived.Test.YtnijbejobbajfaaZDSpNext
import Derived.Test.YtnijbejobbajfaaZDSpLoops
set_option linter.unusedSimpArgs false
set_option linter.unusedVariables false
set_option linter.unusedSectionVars false
set_option linter.unnecessarySimpa false
namespace Go.Proofs.Ytnijbejobbajfaa.D
open Go.AI
def nextD (l : Listeners) (r : Run) : Run × Listeners × Call × Bool × Int := if check l = 0 then (if rightP r = true then outP (outR l id (nextP l (2 * r.path.l.length - r.turn).toNat (startP r))) else (.zero, .zero, .zero, false, 15)) else (.zero, .zero, .zero, false, check l)
structure OkL (l : Listeners) : Prop where
  n : l.list.n = true → l.list.l = []
  len : l.list.l.length ≤ 2 ^ 31
structure OkR (r : Run) : Prop where
  p : r.path.n = true → r.path.l = []
  d : r.due.n = true → r.due.l = []
  pl : r.path.l.length ≤ 2 ^ 31
  dl : r.due.l.length ≤ 2 ^ 31
theorem okR_zero : OkR .zero := ⟨fun _ => rfl, fun _ => rfl, by simp [Run.zero], by simp [Run.zero]⟩
theorem okL_zero : OkL .zero := ⟨fun _ => rfl, by simp [Listeners.zero]⟩
theorem right_of {r : Run} (h : rightP r = true) : r.path.l.length ≤ 4096 ∧ 0 ≤ r.turn ∧ r.turn ≤ 2 * r.path.l.length ∧ r.due.l.length ≤ 1024 := by
  simp only [rightP, Bool.and_eq_true, decide_eq_true_eq] at h
  exact ⟨h.1.1.1.1.1, h.1.1.1.2, h.1.1.2, h.2⟩
theorem prg_next {l : Listeners} {r : Run} (ol : OkL l) (o : OkR r) : pc prog 46 [eListeners l, eRun r] = some ((eT5 eRun eListeners eCall D.bool (D.int .i64)) (nextD l r)) := by
  refine ok46 l r _ ?_
  unfold nextD
  by_cases hc : check l = 0
  · rw [if_pos hc]
    by_cases hr : rightP r = true
    · obtain ⟨r1, r3, r4, r6⟩ := right_of hr
      rw [if_pos hr]
      exact next_prg hc hr ol.n o.p o.d ol.len o.pl o.dl r3 (by omega)
    · have hr0 : rightP r = false := by simpa using hr
      rw [if_neg hr]
      simp only [P46, check_spec, dec_one, Option.bind_some, right_prg r o.pl, hr0, hc]
      rw [if_neg (by simp), if_pos (by simp)]
      rfl
  · rw [if_neg hc]
    simp only [P46, check_spec, dec_one, Option.bind_some]
    rw [if_pos (by simp [hc])]
    rfl
def SimL (a b : Listeners) : Prop := a.list.l = b.list.l ∧ next a = next b
def Near (a b : Run) : Prop := a.event = b.event ∧ a.path.l = b.path.l ∧ a.turn = b.turn ∧ a.due.l = b.due.l ∧ a.clears = b.clears
theorem SimL.refl {a : Listeners} : SimL a a := ⟨rfl, rfl⟩
theorem Near.refl {a : Run} : Near a a := ⟨rfl, rfl, rfl, rfl, rfl⟩
theorem next_ge {l : Listeners} (hc : check l = 0) : 1 ≤ next l := by have := max_next hc; omega
def mu (r : Run) : Nat := (2 * r.path.l.length - r.turn).toNat * 1025 + r.due.l.length
theorem callP_some (l : Listeners) (r : Run) : ∀ d x, (callP l r d).2 = some x → (callP l r d).1.due.l.length < d.length
  | [], x, h => by cases h
  | id :: d, x, h => by
    simp only [callP] at h ⊢
    split at h
    · rename_i hb
      have := callP_some l r d x h
      simp only [List.length_cons]
      omega
    · simp
theorem turnP_due (l : Listeners) (r : Run) : (turnP l r).due.l.length ≤ max r.due.l.length l.list.l.length := by
  unfold turnP turnAt
  split
  · simp only; omega
  · have := due_len l (r.path.l[(placeP r.path.l.length r.turn).1.toNat]!).item r.event.type_ (phaseP (r.path.l[(placeP r.path.l.length r.turn).1.toNat]!) (placeP r.path.l.length r.turn).2) (placeP r.path.l.length r.turn).2
    simp only at this ⊢
    omega
theorem callP_none (l : Listeners) (r : Run) : ∀ d, (callP l r d).2 = none → (callP l r d).1.due.l = []
  | [], h => rfl
  | id :: d, h => by
    simp only [callP] at h ⊢
    split at h
    · exact callP_none l r d h
    · cases h
theorem nextP_mu (l : Listeners) (hl : l.list.l.length ≤ 1024) : ∀ (n : Nat) (r : Run) x, 0 ≤ r.turn → r.turn + n = 2 * r.path.l.length → (nextP l n r).2 = some x → mu (nextP l n r).1 < mu r
  | n, r, x, h0, hN, h => by
    have hp := callP_path l r r.due.l
    have hs := callP_some l r r.due.l
    have hz := callP_none l r r.due.l
    cases n with
    | zero =>
      simp only [nextP] at h ⊢
      have := hs x h
      unfold mu
      rw [hp.1, hp.2.1]
      omega
    | succ n =>
      simp only [nextP] at h ⊢
      generalize callP l r r.due.l = u at *
      obtain ⟨r', y⟩ := u
      cases y with
      | some y =>
        have := hs y rfl
        unfold mu
        simp only at hp this ⊢
        rw [hp.1, hp.2.1]
        omega
      | none =>
        simp only at hp hz h ⊢
        obtain ⟨p1, p2, p3, p4⟩ := hp
        obtain ⟨q1, q2, q3⟩ := turnP_path l r'
        have hd := turnP_due l r'
        have := nextP_mu l hl n (turnP l r') x (by rw [q2, p2]; omega) (by rw [q1, q2, p1, p2]; omega) h
        refine Nat.lt_of_lt_of_le this ?_
        rw [hz trivial] at hd
        unfold mu
        rw [q1, q2, p1, p2]
        simp only [List.length_nil] at hd
        omega
theorem due_flag (l : Listeners) (node : Int) (kind : List UInt8) (ph : Int) (cap : Bool) : (due l node kind ph cap).1.n = true → (due l node kind ph cap).1.l = [] := by
  unfold due
  repeat' split
  all_goals simp
theorem callP_flag (l : Listeners) (r : Run) : ∀ d, (r.due.n = true → d = []) → (callP l r d).1.due.n = true → (callP l r d).1.due.l = []
  | [], _, _ => rfl
  | id :: d, h, hn => by
    have hne : ¬ r.due.n = true := fun h' => by cases h h'
    simp only [callP] at hn ⊢
    split at hn
    · exact callP_flag l r d (fun h' => absurd h' hne) hn
    · exact absurd hn hne
theorem turnP_flag (l : Listeners) (r : Run) (h : r.due.n = true → r.due.l = []) : (turnP l r).due.n = true → (turnP l r).due.l = [] := by
  unfold turnP turnAt
  split
  · exact h
  · exact due_flag _ _ _ _ _
theorem nextP_flag (l : Listeners) : ∀ (n : Nat) (r : Run), (r.due.n = true → r.due.l = []) → (nextP l n r).1.due.n = true → (nextP l n r).1.due.l = []
  | n, r, h => by
    have hf := callP_flag l r r.due.l h
    cases n with
    | zero => exact hf
    | succ n =>
      simp only [nextP]
      generalize callP l r r.due.l = u at *
      obtain ⟨r', y⟩ := u
      cases y with
      | some y => exact hf
      | none => exact nextP_flag l n _ (turnP_flag l r' hf)
theorem okL_expire {l : Listeners} (h : OkL l) (i : Int) : OkL (expire l i).1 := ⟨by
  unfold expire
  split
  · simp [some_]
  · simp [Listeners.zero], Nat.le_trans (expire_len l i) h.len⟩
theorem next_ok {l : Listeners} {r : Run} (ol : OkL l) (o : OkR r) : OkR (nextD l r).1 ∧ OkL (nextD l r).2.1 ∧ ((nextD l r).2.2.2.1 = true → check l = 0 ∧ rightP r = true ∧ mu (nextD l r).1 < mu r) := by
  unfold nextD
  by_cases hc : check l = 0
  · rw [if_pos hc]
    by_cases hr : rightP r = true
    · obtain ⟨r1, r3, r4, r6⟩ := right_of hr
      rw [if_pos hr]
      have hl0 : ((startP r).due.l.length ≤ 2 ^ 31) := by
        rcases hq : r.event.stopNow with _ | _ <;> simp [startP, hq, o.dl]
      have hmu : mu (startP r) ≤ mu r := by
        rcases hq : r.event.stopNow with _ | _ <;> simp [mu, startP, hq]
      have n2 := nextP_len l (2 ^ 31) ol.len (2 * r.path.l.length - r.turn).toNat (startP r) hl0
      have n4 := nextP_flag l (2 * r.path.l.length - r.turn).toNat (startP r) (by rcases hq : r.event.stopNow with _ | _ <;> simp [startP, hq]; exact o.d)
      have n5 := nextP_mu l (check_len hc) (2 * r.path.l.length - r.turn).toNat (startP r)
      generalize nextP l (2 * r.path.l.length - r.turn).toNat (startP r) = u at *
      obtain ⟨u1, u2⟩ := u
      have hk : OkR u1 := by
        have hp : u1.path = r.path := n2.2.1
        exact ⟨by rw [hp]; exact o.p, n4, by rw [hp]; exact o.pl, n2.1⟩
      rcases u2 with _ | ⟨m, c⟩
      · exact ⟨hk, ol, fun h => by cases h⟩
      · refine ⟨hk, ?_, fun _ => ⟨hc, hr, Nat.lt_of_lt_of_le (n5 _ r3 (show r.turn + _ = 2 * (r.path.l.length : Int) by omega) rfl) hmu⟩⟩
        rcases n2.2.2 m c rfl with rfl | ⟨i, rfl⟩
        · exact ol
        · exact okL_expire ol i
    · rw [if_neg hr]
      exact ⟨okR_zero, okL_zero, fun h => by cases h⟩
  · rw [if_neg hc]
    exact ⟨okR_zero, okL_zero, fun h => by cases h⟩
end Go.Proofs.Ytnijbejobbajfaa.D
