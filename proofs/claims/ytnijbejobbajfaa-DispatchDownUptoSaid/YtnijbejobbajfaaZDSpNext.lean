/- Shaken copy of a longer text: what one law needs. Its conditions: none. -/
import Derived.Test.YtnijbejobbajfaaZDSpDisp6
import Derived.Test.YtnijbejobbajfaaZDDecN
set_option linter.unusedSimpArgs false
set_option linter.unusedVariables false
set_option linter.unusedSectionVars false
set_option linter.unnecessarySimpa false
namespace Go.Proofs.Ytnijbejobbajfaa.D
open Go.AI
def calledP (l : Listeners) (r : Run) (id : Int) (x : Listener) : Listeners × Call := (if x.once = true then (expire l id).1 else l, ⟨id, x.callback, (placeP r.path.l.length (r.turn - 1)).1⟩)
def callP (l : Listeners) (r : Run) : List Int → Run × Option (Listeners × Call)
  | [] => ({ r with due := ⟨r.due.n, []⟩ }, none)
  | id :: d => match byP l.list.l id with
    | none => callP l r d
    | some x => ({ r with due := ⟨r.due.n, d⟩, event := { r.event with passive := x.passive == 1 } }, some (calledP l r id x))
theorem place_nat {n : Nat} {t : Int} (h0 : 0 ≤ t) (h1 : t < 2 * n) : ∃ (k : Nat) (c : Bool), k < n ∧ placeP n t = ((k : Int), c) := by
  unfold placeP
  by_cases h : t < (n : Int)
  · exact ⟨((n : Int) - 1 - t).toNat, true, by omega, by rw [if_pos h, Int.toNat_of_nonneg (by omega)]⟩
  · exact ⟨(t - n).toNat, false, by omega, by rw [if_neg h, Int.toNat_of_nonneg (by omega)]⟩
def turnP (l : Listeners) (r : Run) : Run := turnAt l r (placeP r.path.l.length r.turn).1.toNat (placeP r.path.l.length r.turn).2 (r.path.l[(placeP r.path.l.length r.turn).1.toNat]!)
theorem turnP_path (l : Listeners) (r : Run) : (turnP l r).path = r.path ∧ (turnP l r).turn = r.turn + 1 ∧ (turnP l r).clears = r.clears := by
  unfold turnP turnAt
  split <;> simp
theorem callP_path (l : Listeners) (r : Run) : ∀ d, (callP l r d).1.path = r.path ∧ (callP l r d).1.turn = r.turn ∧ (callP l r d).1.clears = r.clears ∧ (callP l r d).1.due.l.length ≤ d.length
  | [] => by simp [callP]
  | id :: d => by
    simp only [callP]
    split
    · have := callP_path l r d
      exact ⟨this.1, this.2.1, this.2.2.1, by simp only [List.length_cons]; omega⟩
    · simp
def nextP (l : Listeners) : Nat → Run → Run × Option (Listeners × Call)
  | 0, r => callP l r r.due.l
  | n + 1, r => match callP l r r.due.l with
    | (r', some x) => (r', some x)
    | (r', none) => nextP l n (turnP l r')
theorem target_run (l : List Step) (n : Bool) (hl : l.length ≤ 2 ^ 31) : pc prog 92 [.list n (l.map eStep)] = some (.int .i64 (targetL l 0)) := by
  refine ok92 ⟨n, l⟩ _ ?_
  unfold P92
  have hw : IntKind.i64.wrap ((l.length : Int) - 1) = (l.length : Int) - 1 := by rw [IntKind.wrap_i64]; omega
  obtain ⟨r, h1, h2⟩ := loopV_rule (step := L92_0_step ⟨n, l⟩) (fun x => ∃ k : Nat, k ≤ l.length ∧ x = (k : Int) - 1 ∧ targetL (l.take k) 0 = targetL l 0) (fun x => (x + 1).toNat) (fun r => (r = .inl () ∧ targetL l 0 = 0) ∨ (r = .inr (targetL l 0))) (by
    rintro x ⟨k, hk, rfl, hF⟩
    cases k with
    | zero =>
      right
      refine ⟨.inl (), by simp [L92_0_step], .inl ⟨rfl, by rw [← hF]; rfl⟩⟩
    | succ k =>
      have hk' : k < l.length := by omega
      have hw : IntKind.i64.wrap ((k : Int) - 1) = (k : Int) - 1 := by rw [IntKind.wrap_i64]; omega
      have he : ((k + 1 : Nat) : Int) - 1 = (k : Int) := by omega
      rw [take_next hk', target_app] at hF
      by_cases hz : (l[k]).target = 0
      · rw [if_pos hz] at hF
        left
        refine ⟨(k : Int) - 1, ?_, ⟨k, by omega, rfl, hF⟩, by omega⟩
        rw [he]
        simp [L92_0_step, rd_nat hk', hz, hw]
      · rw [if_neg hz] at hF
        right
        refine ⟨.inr (l[k]).target, ?_, .inr (by rw [hF])⟩
        rw [he]
        simp [L92_0_step, rd_nat hk', hz]) ((l.length : Int) - 1) ⟨l.length, Nat.le_refl _, rfl, by rw [List.take_length]⟩
  simp only [hw, h1, Option.bind_some]
  rcases h2 with ⟨rfl, h⟩ | rfl
  · simp [h]
  · rfl
theorem idx_loop (a0 : Listeners) (s : Sl Listener) (x : Run) (id : Int) (d : List Int) (hl : s.l.length ≤ 2 ^ 31) : (byP s.l id = none ∧ loopV (L46_2_step a0 s x id d) 0 = some (.inl ())) ∨ ∃ (j : Nat) (hj : j < s.l.length), byP s.l id = some s.l[j] ∧ loopV (L46_2_step a0 s x id d) 0 = some (.inr (j : Int)) := by
  obtain ⟨r, h1, h2⟩ := loopV_upto (step := L46_2_step a0 s x id d) s.l.length (fun k x => x = (k : Int) ∧ byP (s.l.drop k) id = byP s.l id) (fun r => (r = .inl () ∧ byP s.l id = none) ∨ ∃ (j : Nat) (hj : j < s.l.length), r = .inr (j : Int) ∧ byP s.l id = some s.l[j]) (by
    rintro k x hk ⟨rfl, hF⟩
    by_cases h : k < s.l.length
    · rw [drop_cons h] at hF
      have hw := wrap_nat (show k < 2 ^ 62 by omega)
      rcases hz : (s.l[k]).id == id with _ | _
      · left
        refine ⟨h, ((k + 1 : Nat) : Int), ?_, rfl, ?_⟩
        · simp only [L46_2_step, rd_nat h, Option.bind_some, hz]
          rw [if_pos (by simp; omega), if_neg (by simp), hw]
        · rw [← hF]; simp only [byP, List.find?_cons, hz]
      · right
        refine ⟨.inr (k : Int), ?_, .inr ⟨k, h, rfl, ?_⟩⟩
        · simp only [L46_2_step, rd_nat h, Option.bind_some, hz]
          rw [if_pos (by simp; omega), if_pos True.intro]
        · rw [← hF]; simp only [byP, List.find?_cons, hz]
    · right
      refine ⟨.inl (), by simp [L46_2_step, h], .inl ⟨rfl, ?_⟩⟩
      rw [← hF, List.drop_eq_nil_of_le (by omega)]; rfl) 0 0 (Nat.zero_le _) ⟨rfl, rfl⟩
  rcases h2 with ⟨rfl, h⟩ | ⟨j, hj, rfl, h⟩
  · exact .inl ⟨h, h1⟩
  · exact .inr ⟨j, hj, h, h1⟩
def callR (x : Run × Option (Listeners × Call)) : Run ⊕ (Run × Listeners × Call) := match x with | (r, none) => .inl r | (r, some (m, c)) => .inr (r, m, c)
theorem callP_due (l : Listeners) (x : Run) (d0 : Sl Int) : ∀ d', d0.n = x.due.n → callP l { x with due := d0 } d' = callP l x d'
  | [], h => by simp only [callP, h]
  | i :: d', h => by
    simp only [callP]
    split
    · exact callP_due l x d0 d' h
    · simp only [h]; rfl
theorem call_loop (a0 : Listeners) (s : Sl Listener) (hl : s.l.length ≤ 2 ^ 31) : ∀ (d : List Int) (x : Run), x.due.l = d → x.path.l.length ≤ 2 ^ 31 → 0 ≤ x.turn → x.turn ≤ 2 ^ 40 → loopV (L46_1_step a0 s) x = some (callR (callP ⟨s, a0.next⟩ x d))
  | [], x, hd, hp, h0, h1 => by
    refine loopV_done ?_
    obtain ⟨e, p, t, ⟨n, l⟩, c⟩ := x
    obtain rfl : l = [] := hd
    rfl
  | id :: d, x, hd, hp, h0, h1 => by
    have hw : IntKind.i64.wrap (x.turn - 1) = x.turn - 1 := by rw [IntKind.wrap_i64]; omega
    rcases idx_loop a0 s x id d hl with ⟨hb, hi⟩ | ⟨j, hj, hb, hi⟩
    · have hs : L46_1_step a0 s x = some (.inl { x with due := ⟨x.due.n, d⟩ }) := by
        simp only [L46_1_step, hd, rd_cons0, cut_tail, Option.bind_some, hi]
        rw [if_pos (by simp)]
      rw [loopV_next hs, call_loop a0 s hl d { x with due := ⟨x.due.n, d⟩ } rfl hp h0 h1]
      refine (congrArg (fun y => some (callR y)) (callP_due ⟨s, a0.next⟩ x ⟨x.due.n, d⟩ d rfl)).trans ?_
      simp only [callP, hb]
    · refine loopV_done ?_
      have hpl := fun e : Event => place_run ⟨e, x.path, x.turn, ⟨x.due.n, d⟩, x.clears⟩ (x.turn - 1) hp (by omega) (by omega)
      simp only [L46_1_step, hd, rd_cons0, cut_tail, Option.bind_some, hi, rd_nat hj, expire_spec, dec_t3, hw, hpl, dec_t2]
      rw [if_pos (by simp), if_neg (by simp)]
      simp only [callP, hb, callR, calledP]
      cases (s.l[j]).once <;> simp
theorem turnP_of {l : Listeners} {r : Run} {k : Nat} {c : Bool} (hk : k < r.path.l.length) (h : placeP r.path.l.length r.turn = ((k : Int), c)) : turnP l r = turnAt l r k c r.path.l[k] := by
  have hget : r.path.l[k]! = r.path.l[k] := by simp [hk]
  simp only [turnP, h, Int.toNat_natCast, hget]
def outR (m0 : Listeners) (f : Listeners → Listeners) (x : Run × Option (Listeners × Call)) : Bool × Run × Listeners × Call := match x with | (r, none) => (false, r, m0, .zero) | (r, some (m, c)) => (true, r, f m, c)
theorem goes_prg (a0 : Listeners) (s : Sl Listener) (hl : s.l.length ≤ 2 ^ 31) : ∀ (n : Nat) (x : Run), x.path.l.length ≤ 2 ^ 31 → 0 ≤ x.turn → x.turn + n = 2 * x.path.l.length → loopV (L46_0_step a0 s) x = some (outR ⟨s, a0.next⟩ id (nextP ⟨s, a0.next⟩ n x)) := by
  intro n
  induction n with
  | zero =>
    intro x hp h0 h1
    refine loopV_done ?_
    obtain ⟨p1, p2, p3, -⟩ := callP_path ⟨s, a0.next⟩ x x.due.l
    have hw : IntKind.i64.wrap (2 * (x.path.l.length : Int)) = 2 * (x.path.l.length : Int) := by rw [IntKind.wrap_i64]; omega
    simp only [L46_0_step, call_loop a0 s hl x.due.l x rfl hp h0 (by omega), Option.bind_some, nextP]
    generalize callP ⟨s, a0.next⟩ x x.due.l = y at *
    obtain ⟨r, _ | ⟨m, c⟩⟩ := y
    · simp only at p1 p2 p3
      simp only [callR, outR, p1, p2, hw]
      rw [if_pos (by simp; omega)]
      rfl
    · rfl
  | succ n ih =>
    intro x hp h0 h1
    obtain ⟨p1, p2, p3, -⟩ := callP_path ⟨s, a0.next⟩ x x.due.l
    have hc := call_loop a0 s hl x.due.l x rfl hp h0 (by omega)
    have hw : IntKind.i64.wrap (2 * (x.path.l.length : Int)) = 2 * (x.path.l.length : Int) := by rw [IntKind.wrap_i64]; omega
    have hw1 : IntKind.i64.wrap (x.turn + 1) = x.turn + 1 := by rw [IntKind.wrap_i64]; omega
    simp only [nextP]
    generalize callP ⟨s, a0.next⟩ x x.due.l = y at *
    obtain ⟨r, _ | ⟨m, c⟩⟩ := y
    · simp only at p1 p2 p3
      have pl : r.path.l.length = x.path.l.length := by rw [p1]
      obtain ⟨q1, q2, q3⟩ := turnP_path ⟨s, a0.next⟩ r
      have hs : L46_0_step a0 s x = some (.inl (turnP ⟨s, a0.next⟩ r)) := by
        obtain ⟨k, c, hk, hpl⟩ := place_nat (n := r.path.l.length) (t := r.turn) (by omega) (by rw [p1, p2]; omega)
        have hpr := place_run r r.turn (by omega) (by omega) (by omega)
        have hwk := wrap_nat (show k < 2 ^ 62 by omega)
        have hcut := cut_to (l := r.path.l) (k := k + 1) (by omega)
        simp only [L46_0_step, hc, callR, Option.bind_some]
        rw [if_neg (by rw [p1, p2, hw]; simp; omega)]
        simp only [hpr, hpl, dec_t2, Option.bind_some, rd_nat hk, hwk, hcut]
        have htr := target_run (r.path.l.take (k + 1)) r.path.n (by rw [List.length_take]; omega)
        simp only [htr, dec_one, prg_due, dec_t2, Option.bind_some, turnP_of hk hpl, turnAt, stayP, phaseP, p2, hw1]
        by_cases ht : (r.path.l[k]).target = 0
        · rw [if_neg (by simp [ht]), if_pos ht]
          cases c
          · rcases hb : r.event.bubbles with _ | _ <;> rcases hs : r.event.stop with _ | _ <;> rfl
          · rcases hs : r.event.stop with _ | _ <;> rfl
        · rw [if_pos (by simp [ht]), if_neg ht]
          rcases hs : r.event.stop with _ | _ <;> rfl
      rw [loopV_next hs, ih _ (by rw [q1, p1]; exact hp) (by rw [q2, p2]; omega) (by rw [q1, q2, p1, p2]; omega)]
    · refine loopV_done ?_
      simp only [L46_0_step, hc, callR, Option.bind_some, outR]
      rfl
theorem expire_len (l : Listeners) (id : Int) : (expire l id).1.list.l.length ≤ l.list.l.length := by
  unfold expire
  split
  · exact List.length_filter_le _ _
  · simp [Listeners.zero]
theorem due_len (l : Listeners) (node : Int) (kind : List UInt8) (ph : Int) (cap : Bool) : (due l node kind ph cap).1.l.length ≤ l.list.l.length := by
  have hd : ∀ c, (dueL node kind c l.list.l).length ≤ l.list.l.length := by
    intro c
    generalize l.list.l = xs
    induction xs with
    | nil => simp [dueL]
    | cons x xs ih =>
      rw [dueL_cons]
      split
      · simp; omega
      · simp; omega
  unfold due
  split
  · split
    · exact hd _
    · split
      · exact hd _
      · split
        · exact hd _
        · simp
  · simp
theorem nextP_len (l : Listeners) (K : Nat) (hK : l.list.l.length ≤ K) : ∀ (n : Nat) (a : Run), a.due.l.length ≤ K → (nextP l n a).1.due.l.length ≤ K ∧ (nextP l n a).1.path = a.path ∧ (∀ m c, (nextP l n a).2 = some (m, c) → m = l ∨ ∃ i, m = (expire l i).1)
  | n, a, h => by
    have hc := callP_path l a a.due.l
    have hm : ∀ d m c, (callP l a d).2 = some (m, c) → m = l ∨ ∃ i, m = (expire l i).1 := by
      intro d
      induction d with
      | nil => intro m c h; cases h
      | cons i d ih =>
        intro m c h
        simp only [callP] at h
        split at h
        · exact ih m c h
        · simp only [calledP, Option.some.injEq, Prod.mk.injEq] at h
          rcases h with ⟨rfl, -⟩
          split
          · exact .inr ⟨i, rfl⟩
          · exact .inl rfl
    cases n with
    | zero =>
      simp only [nextP]
      exact ⟨by omega, hc.1, hm _⟩
    | succ n =>
      simp only [nextP]
      have hm' := hm a.due.l
      generalize callP l a a.due.l = u at *
      obtain ⟨r, x⟩ := u
      cases x with
      | some x => exact ⟨by simp only at hc ⊢; omega, hc.1, hm'⟩
      | none =>
        simp only at hc
        have ht : (turnP l r).due.l.length ≤ K := by
          unfold turnP turnAt
          split
          · simp only; omega
          · exact Nat.le_trans (due_len _ _ _ _ _) hK
        have := nextP_len l K hK n (turnP l r) ht
        exact ⟨this.1, by rw [this.2.1, (turnP_path l r).1, hc.1], this.2.2⟩
def startP (r : Run) : Run := { r with event := { r.event with passive := false }, due := if r.event.stopNow = true then ⟨true, []⟩ else r.due }
theorem check_chk {l : Listeners} (hc : check l = 0) : (l.list.l = [] ∧ l.next = 0) ∨ (l.list.l.length ≤ 1024 ∧ 1 ≤ l.next ∧ l.next ≤ 1099511627776 ∧ chk l.next [] 0 l.list.l = true) := by
  unfold check at hc
  split at hc
  · rename_i h; left; exact ⟨List.length_eq_zero_iff.1 h.1, h.2⟩
  · split at hc
    · cases hc
    · right
      split at hc
      · exact ⟨by omega, by omega, by omega, by assumption⟩
      · cases hc
def outP (b : Bool × Run × Listeners × Call) : Run × Listeners × Call × Bool × Int := (b.2.1, b.2.2.1, b.2.2.2, b.1, 0)
theorem start_eq (r : Run) : (if r.event.stopNow = true then some { r with event := { r.event with passive := false }, due := ⟨true, []⟩ } else some { r with event := { r.event with passive := false } }) = some (startP r) := by
  unfold startP; split <;> rfl
theorem next_prg {l : Listeners} {r : Run} {N : Nat} (hc : check l = 0) (hr : rightP r = true) (ol : l.list.n = true → l.list.l = []) (h1 : r.path.n = true → r.path.l = []) (h2 : r.due.n = true → r.due.l = []) (hl : l.list.l.length ≤ 2 ^ 31) (hp : r.path.l.length ≤ 2 ^ 31) (hd : r.due.l.length ≤ 2 ^ 31) (r3 : 0 ≤ r.turn) (hN : r.turn + N = 2 * r.path.l.length) : P46 l r = some (outP (outR l id (nextP l N (startP r)))) := by
  have g1 := goes_prg l l.list hl N (startP r) hp r3 hN
  simp only [P46, check_spec, dec_one, Option.bind_some, right_prg r hp, own_prg r h1 h2 hp hd, lis_clone l.list.n l.list.l ol hl, dec_list, hr, hc]
  rw [if_neg (by simp), if_neg (by simp)]
  refine (congrArg (fun x => Option.bind x _) (start_eq r)).trans ?_
  rw [Option.bind_some, g1]
  rfl
end Go.Proofs.Ytnijbejobbajfaa.D
