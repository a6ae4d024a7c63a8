/- Shaken copy of a longer text: what one law needs. Its conditions: none. -/
import Derived.Test.YtnijbejobbajfaaZDSpTrace
set_option linter.unusedSimpArgs false
set_option linter.unusedVariables false
set_option linter.unusedSectionVars false
set_option linter.unnecessarySimpa false
namespace Go.Proofs.Ytnijbejobbajfaa.D
open Go.AI
def doesL (es : List Effects) (cb : Int) : List Int := match es.findIdx? (fun e => e.callback == cb) with | none => [] | some k => (es[k]!).does.l
def goneL (es : List Effects) (cb : Int) : List Int := match es.findIdx? (fun e => e.callback == cb) with | none => [] | some k => (es[k]!).gone.l
theorem doneD_eq (es : List Effects) (cb : Int) (l : Listeners) (r : Run) : doneD es cb l r = ((goneL es cb).foldl goneD l, (doesL es cb).foldl actD r) := by
  unfold doneD goneL doesL
  generalize es.findIdx? (fun e => e.callback == cb) = o
  cases o <;> rfl
theorem act_right {r : Run} (h : rightP r = true) {d : Int} (hd : d < 4) : actD r d = { r with event := actE r.event d } := by
  unfold actD actP
  rw [if_neg (by simp [h]), if_neg (by omega)]
theorem acts_right : ∀ (ds : List Int) {r : Run}, rightP r = true → (∀ d ∈ ds, d < 4) → ds.foldl actD r = { r with event := ds.foldl actE r.event }
  | [], r, _, _ => rfl
  | d :: ds, r, h, hd => by
    simp only [List.foldl_cons]
    rw [act_right h (hd d List.mem_cons_self)]
    exact acts_right ds (r := { r with event := actE r.event d }) h (fun x hx => hd x (List.mem_cons_of_mem _ hx))
structure Acted (ds : List Int) (e f : Event) : Prop where
  ty : f.type_ = e.type_
  bub : f.bubbles = e.bubbles
  can : f.cancelable = e.cancelable
  disp : f.dispatching = e.dispatching
  pass : f.passive = e.passive
  stop : f.stop = (e.stop || ds.any fun d => d == 1 || d == 2)
  now : f.stopNow = (e.stopNow || ds.any fun d => d == 2)
  canc : f.canceled = (e.canceled || ((ds.any fun d => d == 3) && e.cancelable && !e.passive))
theorem acted : ∀ (ds : List Int) (e : Event), Acted ds e (ds.foldl actE e)
  | [], e => ⟨rfl, rfl, rfl, rfl, rfl, by simp, by simp, by simp⟩
  | d :: ds, e => by
    have h := acted ds (actE e d)
    refine ⟨h.ty, h.bub, h.can, h.disp, h.pass, ?_, ?_, ?_⟩
    · rw [List.foldl_cons, h.stop]
      simp only [actE, List.any_cons, Bool.or_assoc]
    · rw [List.foldl_cons, h.now]
      simp only [actE, List.any_cons, Bool.or_assoc]
    · rw [List.foldl_cons, h.canc]
      simp only [actE, List.any_cons]
      cases e.canceled <;> cases (d == 3) <;> cases e.cancelable <;> cases e.passive <;> cases (ds.any fun d => d == 3) <;> rfl
theorem inv_start {a0 : List Listener} {p : List Step} {e : Event} {l : Listeners} {r : Run} (h : Inv a0 p e l r) : Inv a0 p e l (startP r) := by
  have hd : (startP r).due.l = r.due.l ∨ (startP r).due.l = [] := by
    rcases hq : r.event.stopNow with _ | _ <;> simp [startP, hq]
  refine ⟨h.path, h.ty, h.bub, h.can, h.disp, h.t0, h.t1, h.pl, ?_, ?_, h.sub, h.ck, ?_, ?_⟩
  · rcases hd with hd | hd <;> rw [hd]
    · exact h.dl
    · simp
  · rcases h.first with g | g
    · exact .inl g
    · right; rcases hd with hd | hd <;> rw [hd]; exact g
  · rcases hd with hd | hd <;> rw [hd]
    · exact h.due
    · simp
  · rcases hd with hd | hd <;> rw [hd]
    · exact h.asc
    · exact List.Pairwise.nil
theorem inv_gone {a0 : List Listener} {p : List Step} {e : Event} {r : Run} : ∀ (gs : List Int) {l : Listeners}, Inv a0 p e l r → Inv a0 p e (gs.foldl goneD l) r
  | [], _, h => h
  | g :: gs, l, h => inv_gone gs (l := goneD l g) ⟨h.path, h.ty, h.bub, h.can, h.disp, h.t0, h.t1, h.pl, h.dl, h.first, (expire_sub l g).trans h.sub, check_exp h.ck g, h.due, h.asc⟩
theorem inv_acted {a0 : List Listener} {p : List Step} {e : Event} {l : Listeners} {r : Run} (h : Inv a0 p e l r) (ds : List Int) : Inv a0 p e l { r with event := ds.foldl actE r.event } := by
  have g := acted ds r.event
  exact ⟨h.path, g.ty.trans h.ty, g.bub.trans h.bub, g.can.trans h.can, g.disp.trans h.disp, h.t0, h.t1, h.pl, h.dl, h.first, h.sub, h.ck, h.due, h.asc⟩
inductive Tr (es : List Effects) (a0 : List Listener) (p : List Step) (e : Event) : Listeners → Run → List Call → Listeners → Run → Prop where
  | nil {l : Listeners} {r r' : Run} : Inv a0 p e l r → Inv a0 p e l r' → Keeps r r' → r'.turn = 2 * p.length → r'.due.l = [] → Tr es a0 p e l r [] l r'
  | cons {l m l' : Listeners} {r r' r'' : Run} {c : Call} {x : Listener} {cs : List Call} : Inv a0 p e l r → Went a0 p e l (startP r) m c x r' → Tr es a0 p e ((goneL es c.callback).foldl goneD m) { r' with event := (doesL es c.callback).foldl actE r'.event } cs l' r'' → Tr es a0 p e l r (c :: cs) l' r''
theorem go_tr {es : List Effects} {a0 : List Listener} {p : List Step} {e : Event} (ha : a0.Pairwise (fun a b => a.id < b.id)) (hes : ∀ cb, ∀ d ∈ doesL es cb, d < 4) : ∀ (n : Nat) (l : Listeners) (r : Run) (cs0 : List Call), Inv a0 p e l r → mu r < n → ∃ cs, (goD es n l r cs0).1 = cs0 ++ cs ∧ Tr es a0 p e l r cs (goD es n l r cs0).2.1 (goD es n l r cs0).2.2 := by
  intro n
  induction n with
  | zero => intro l r cs0 _ h; omega
  | succ n ih =>
    intro l r cs0 h hm
    have hst := inv_start h
    have hN : (startP r).turn + ((2 * r.path.l.length - r.turn).toNat : Nat) = 2 * p.length := by
      have := h.t1
      show r.turn + _ = _
      rw [h.path]
      omega
    obtain ⟨n1, n2⟩ := nextP_inv ha (2 * r.path.l.length - r.turn).toNat (startP r) hst hN
    have hmu : mu (startP r) ≤ mu r := by
      rcases hq : r.event.stopNow with _ | _ <;> simp [mu, startP, hq]
    have n5 := nextP_mu l (check_len h.ck) (2 * r.path.l.length - r.turn).toNat (startP r)
    have hnd : nextD l r = outP (outR l id (nextP l (2 * r.path.l.length - r.turn).toNat (startP r))) := by
      unfold nextD; rw [if_pos h.ck, if_pos h.right]
    rw [goD, hnd]
    generalize nextP l (2 * r.path.l.length - r.turn).toNat (startP r) = u at *
    obtain ⟨r', _ | ⟨m, c⟩⟩ := u
    · obtain ⟨q1, q2, q3, q4⟩ := n1 rfl
      rw [if_neg (by simp [outP, outR])]
      exact ⟨[], by simp, .nil h q1 ⟨q2.stop, q2.now, q2.canc, q2.clears⟩ q3 q4⟩
    · obtain ⟨x, w⟩ := n2 m c rfl
      rw [if_pos (by simp [outP, outR])]
      have hlt : mu r' < mu (startP r) := n5 (m, c) h.t0 (by rw [hN, hst.path]) rfl
      have hd : doneD es c.callback m r' = ((goneL es c.callback).foldl goneD m, { r' with event := (doesL es c.callback).foldl actE r'.event }) := by
        rw [doneD_eq, acts_right _ w.inv.right (hes _)]
      have hi := inv_gone (goneL es c.callback) (inv_acted w.inv (doesL es c.callback))
      show ∃ cs, (goD es n (doneD es c.callback m r').1 (doneD es c.callback m r').2 (cs0 ++ [c])).1 = cs0 ++ cs ∧ Tr es a0 p e l r cs (goD es n (doneD es c.callback m r').1 (doneD es c.callback m r').2 (cs0 ++ [c])).2.1 (goD es n (doneD es c.callback m r').1 (doneD es c.callback m r').2 (cs0 ++ [c])).2.2
      rw [hd]
      obtain ⟨cs, g1, g2⟩ := ih _ _ (cs0 ++ [c]) hi (show mu r' < n by omega)
      exact ⟨c :: cs, by rw [g1]; simp, .cons h w g2⟩
end Go.Proofs.Ytnijbejobbajfaa.D
