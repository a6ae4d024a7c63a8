/- Shaken copy of a longer text: what one law needs. Its conditions: none. -/
import Derived.Test.YtfleilibjdgcjaaZAiF
set_option linter.unusedSimpArgs false
set_option linter.unusedVariables false
set_option linter.unusedSectionVars false
set_option linter.unnecessarySimpa false
namespace Go.AI
theorem VR.trans {f g : Nat → Nat} {a b : V} (h : VR f a b) : ∀ {c : V}, VR g b c → VR (g ∘ f) a c := by
  have ll : ∀ {l m : List V}, (∀ (j : Nat) x v, l[j]? = some x → m[j]? = some v → ∀ {c : V}, VR g v c → VR (g ∘ f) x c) → m.length = l.length → ∀ {n : List V}, VRL g m n → VRL (g ∘ f) l n := by
    intro l m ih hl n hg
    refine ⟨hg.len.trans hl, fun j x w hx hw => ?_⟩
    have hj : j < m.length := by
      rw [hl]
      rcases Nat.lt_or_ge j l.length with h1 | h1
      · exact h1
      · rw [List.getElem?_eq_none h1] at hx; cases hx
    exact ih j x m[j] hx (List.getElem?_eq_getElem hj) (hg.get j _ _ (List.getElem?_eq_getElem hj) hw)
  induction h with
  | undef v => intro c _; exact .undef _
  | d x => intro c hc; rw [hc.d_inv]; exact .d _
  | ptr => intro c hc; rw [hc.ptr_inv]; exact .ptr ..
  | rp => intro c hc; rw [hc.rp_inv]; exact .rp ..
  | sl => intro c hc; rw [hc.sl_inv]; exact .sl ..
  | map => intro c hc; rw [hc.map_inv]; exact .map _
  | it => intro c hc; rw [hc.it_inv]; exact .it _
  | yld => intro c hc; rw [hc.yld_inv]; exact .yld _
  | agg hl _ ih =>
    intro c hc
    cases hc with
    | agg h1 h2 => exact (ll ih hl ⟨h1, h2⟩).agg
    | aggd h1 h2 => have := ll ih hl ⟨h1, h2⟩; exact .aggd this.len this.get
  | aggd hl _ ih => intro c hc; rw [hc.d_inv]; have := ll ih hl (VRL.dd _); exact .aggd this.len this.get
  | tuple hl _ ih =>
    intro c hc
    cases hc with
    | tuple h1 h2 => exact (ll ih hl ⟨h1, h2⟩).tuple
    | tupled h1 h2 => have := ll ih hl ⟨h1, h2⟩; exact .tupled this.len this.get
  | tupled hl _ ih => intro c hc; rw [hc.d_inv]; have := ll ih hl (VRL.dd _); exact .tupled this.len this.get
  | clo hl _ hl2 _ ih1 ih2 =>
    intro c hc
    obtain ⟨a', b', rfl, h1, h2⟩ := hc.clo_inv
    have k1 := ll ih1 hl h1
    have k2 := ll ih2 hl2 h2
    exact .clo k1.len k1.get k2.len k2.get
theorem VRL.trans {f g : Nat → Nat} {l m n : List V} (h : VRL f l m) (k : VRL g m n) : VRL (g ∘ f) l n := by
  induction l generalizing m n with
  | nil => have := h.nil_inv; subst this; rw [k.nil_inv]; exact .nil
  | cons x l ih =>
    obtain ⟨v, m', rfl, h1, h2⟩ := h.cons_inv
    obtain ⟨w, n', rfl, k1, k2⟩ := k.cons_inv
    exact .cons (h1.trans k1) (ih h2 k2)
theorem MRL.trans {f g : Nat → Nat} {l m : List (D × V × Nat)} (h : MRL f l m) : ∀ {n : List (D × V × Nat)}, MRL g m n → MRL (g ∘ f) l n := by
  induction h with
  | nil => intro n k; cases k; exact .nil
  | cons a _ ih => intro n k; cases k with | cons b t => exact .cons ⟨b.1.trans a.1, a.2.1.trans b.2.1, b.2.2.trans a.2.2⟩ (ih t)
theorem BR.trans {f g : Nat → Nat} {a b c : Blk} (h : BR f a b) (k : BR g b c) : BR (g ∘ f) a c := by
  cases h with
  | els hz h => cases k with | els hz' k => exact .els (Nat.le_trans hz' hz) (h.trans k)
  | map h => cases k with | map k => exact .map (h.trans k)
  | it => cases k with | it => exact .it ..
  | loop a b c d e f g h => cases k with | loop a' b' c' d' e' f' g' h' => exact .loop (fun t => (a t).trans (a' t)) (b'.trans b) (c'.trans c) (d'.trans d) (e'.trans e) (f'.trans f) g h
theorem HR.trans {f g : Nat → Nat} {a b c : Heap} (h : HR f a b) (k : HR g b c) : HR (g ∘ f) a c where
  blk := fun i x hx => by
    obtain ⟨y, h1, h2⟩ := h.blk i x hx
    obtain ⟨z, h3, h4⟩ := k.blk (f i) y h1
    exact ⟨z, h3, h2.trans h4⟩
  next := fun i => by show g (f _) = _; rw [h.next, k.next]
  inj := fun i j e => h.inj _ _ (k.inj _ _ e)
theorem SR.trans {f g : Nat → Nat} {a b c : St} (h : SR f a b) (k : SR g b c) : SR (g ∘ f) a c := ⟨fun t => (h.r t).trans (k.r t), h.h.trans k.h⟩
def Up (n : Nat) (s t : St) : Prop := ∃ f, (∀ b, b < n → f b = b) ∧ SR f s t
theorem Up.trans {n : Nat} {a b c : St} (h : Up n a b) (k : Up n b c) : Up n a c := by
  obtain ⟨f, h1, h2⟩ := h
  obtain ⟨g, k1, k2⟩ := k
  exact ⟨g ∘ f, fun b hb => by show g (f b) = b; rw [h1 b hb, k1 b hb], h2.trans k2⟩
def Clo (n : Nat) (Q : Ex → St → Prop) : Prop := ∀ e s t, Up n s t → Q e s → Q e t
theorem Clo.ret {n : Nat} {rs : List RV} {x : D} : Clo n (RetPost rs (Reads x)) := fun e s t ⟨f, _, S⟩ h => by
  have key : ∀ {e : Ex}, (∃ vs, resultsV s rs = some vs ∧ Reads x (oneOr vs) s.h) → ∃ vs, resultsV t rs = some vs ∧ Reads x (oneOr vs) t.h := by
    rintro e ⟨vs, h1, h2⟩
    obtain ⟨vs', h3, h4⟩ := results_ren S h1
    refine ⟨vs', h3, ?_⟩
    unfold Reads at h2 ⊢
    obtain ⟨⟨y, k⟩, h5, rfl⟩ := Option.map_eq_some_iff.1 h2
    obtain ⟨k', h6, _⟩ := res_ren 8 h5 h4.oneOr S.h
    rw [h6]; rfl
  cases e with
  | normal => exact key (e := .normal) h
  | ret => exact key (e := .ret) h
  | exit id => exact h
theorem Clo.seq {A : AProg} (hA : A.Loc) {n : Nat} {b : C} (hb : b.loc = true) {Q : Ex → St → Prop} (h : Clo n Q) : Clo n (Ex.seq A b Q) := fun e s t hs hq => by
  cases e with
  | normal =>
    have h1 : Wp A b s Q := hq
    obtain ⟨f, hf, S⟩ := hs
    exact (Wp_ren hA hb S h1).mono fun e t' ⟨t0, h2, h3⟩ => h e t0 t' ⟨f, hf, h3⟩ h2
  | exit id => exact h _ s t hs hq
  | ret => exact h _ s t hs hq
theorem Clo.block {n id : Nat} {Q : Ex → St → Prop} (h : Clo n Q) : Clo n (Ex.block id Q) := fun e s t hs hq => by
  cases e with
  | normal => exact h _ s t hs hq
  | ret => exact h _ s t hs hq
  | exit id' =>
    simp only [Ex.block] at hq ⊢
    split
    · rename_i he; rw [if_pos he] at hq; exact h _ s t hs hq
    · rename_i he; rw [if_neg he] at hq; exact h _ s t hs hq
def iterV {σ ρ : Type} (step : σ → Option (σ ⊕ ρ)) : Nat → σ → Option ρ
  | 0, _ => none
  | n + 1, x => match step x with
    | none => none
    | some (.inl y) => iterV step n y
    | some (.inr r) => some r
open Classical in
noncomputable def loopV {σ ρ : Type} (step : σ → Option (σ ⊕ ρ)) (x : σ) : Option ρ := if h : ∃ r n, iterV step n x = some r then some (Classical.choose h) else none
section
variable {σ ρ : Type} {step : σ → Option (σ ⊕ ρ)}
theorem iterV_le {n m : Nat} (hm : n ≤ m) : ∀ {x : σ} {r : ρ}, iterV step n x = some r → iterV step m x = some r := by
  induction n generalizing m with
  | zero => intro x r h; simp [iterV] at h
  | succ n ih =>
    intro x r h
    obtain ⟨k, rfl⟩ : ∃ k, m = k + 1 := ⟨m - 1, by omega⟩
    simp only [iterV] at h ⊢
    split at h
    · cases h
    · exact ih (by omega) h
    · exact h
theorem loopV_iff {x : σ} {r : ρ} : loopV step x = some r ↔ ∃ n, iterV step n x = some r := by
  unfold loopV
  constructor
  · intro e
    split at e
    · rename_i h; cases e; exact Classical.choose_spec h
    · cases e
  · rintro ⟨n, hn⟩
    have hx : ∃ r n, iterV step n x = some r := ⟨r, n, hn⟩
    rw [dif_pos hx]
    obtain ⟨m, hm⟩ := Classical.choose_spec hx
    have h1 := iterV_le (Nat.le_max_left n m) hn
    have h2 := iterV_le (Nat.le_max_right n m) hm
    rw [h1] at h2
    exact h2.symm
theorem loopV_next {x y : σ} (h : step x = some (.inl y)) : loopV step x = loopV step y := by
  have : ∀ r, loopV step x = some r ↔ loopV step y = some r := fun r => by
    rw [loopV_iff, loopV_iff]
    constructor
    · rintro ⟨n, hn⟩
      cases n with
      | zero => simp [iterV] at hn
      | succ n => simp only [iterV, h] at hn; exact ⟨n, hn⟩
    · rintro ⟨n, hn⟩; exact ⟨n + 1, by simp only [iterV, h]; exact hn⟩
  cases h1 : loopV step x with
  | some r => exact ((this r).1 h1).symm
  | none =>
    cases h2 : loopV step y with
    | none => rfl
    | some r => rw [(this r).2 h2] at h1; cases h1
theorem loopV_done {x : σ} {r : ρ} (h : step x = some (.inr r)) : loopV step x = some r := loopV_iff.2 ⟨1, by simp only [iterV, h]⟩
theorem loopV_upto (n : Nat) (I : Nat → σ → Prop) (P : ρ → Prop) (h : ∀ k x, k ≤ n → I k x → (k < n ∧ ∃ y, step x = some (.inl y) ∧ I (k + 1) y) ∨ ∃ r, step x = some (.inr r) ∧ P r) : ∀ (k : Nat) (x : σ), k ≤ n → I k x → ∃ r, loopV step x = some r ∧ P r := by
  intro k x hk hx
  generalize hm : n - k = m
  induction m generalizing k x with
  | zero =>
    rcases h k x hk hx with ⟨h0, _⟩ | ⟨r, h1, h2⟩
    · omega
    · exact ⟨r, loopV_done h1, h2⟩
  | succ m ih =>
    rcases h k x hk hx with ⟨h0, y, h1, h2⟩ | ⟨r, h1, h2⟩
    · rw [loopV_next h1]; exact ih (k + 1) y (by omega) h2 (by omega)
    · exact ⟨r, loopV_done h1, h2⟩
def LPost (n : Nat) (S : σ → St) (F : ρ → Ex × St) : σ ⊕ ρ → Ex → St → Prop
  | .inl y => fun e t => e = .normal ∧ Up n (S y) t
  | .inr r => fun e t => e = (F r).1 ∧ e ≠ .normal ∧ Up n (F r).2 t
theorem Clo.lpost {n : Nat} {S : σ → St} {F : ρ → Ex × St} {o : σ ⊕ ρ} : Clo n (LPost n S F o) := fun e s t hs hq => by
  cases o with
  | inl y => exact ⟨hq.1, hq.2.trans hs⟩
  | inr r => exact ⟨hq.1, hq.2.1, hq.2.2.trans hs⟩
theorem Wp.loopR {A : AProg} (hA : A.Loc) {n : Nat} {a : C} (ha : a.loc = true) (S : σ → St) (F : ρ → Ex × St) (hstep : ∀ x o, step x = some o → Wp A a (S x) (LPost n S F o)) {x : σ} {r : ρ} (hr : loopV step x = some r) {s : St} (hs : Up n (S x) s) {Q : Ex → St → Prop} (hQ : Clo n Q) (hq : Q (F r).1 (F r).2) : Wp A (.loop a) s Q := by
  have main : ∀ (m : Nat) (x : σ), iterV step m x = some r → Wp A (.loop a) (S x) fun e t => e = (F r).1 ∧ Up n (F r).2 t := by
    intro m
    induction m with
    | zero => intro x h; simp [iterV] at h
    | succ m ih =>
      intro x h
      refine Wp.loop_step ?_
      simp only [iterV] at h
      split at h
      · cases h
      · rename_i y hy
        refine (hstep x _ hy).mono ?_
        rintro e t ⟨rfl, f, hf, hS⟩
        dsimp only
        exact (Wp_ren hA (c := .loop a) (by simpa [C.loc] using ha) hS (ih y h)).mono fun e t' ⟨t0, ⟨h1, h2⟩, h3⟩ => ⟨h1, h2.trans ⟨f, hf, h3⟩⟩
      · rename_i r' hy
        cases h
        refine (hstep x _ hy).mono ?_
        rintro e t ⟨h1, h2, h3⟩
        cases e with
        | normal => exact absurd rfl h2
        | exit id => exact ⟨h1, h3⟩
        | ret => exact ⟨h1, h3⟩
  obtain ⟨m, hm⟩ := loopV_iff.1 hr
  obtain ⟨f, hf, hS⟩ := hs
  refine (Wp_ren hA (c := .loop a) (by simpa [C.loc] using ha) hS (main m x hm)).mono fun e t ⟨t0, ⟨h1, h2⟩, h3⟩ => ?_
  subst h1
  exact hQ _ _ _ (h2.trans ⟨f, hf, h3⟩) hq
end
def CPost (n : Nat) (e0 : Ex) (s0 : St) (e : Ex) (t : St) : Prop := e = e0 ∧ Up n s0 t
theorem Clo.cpost {n : Nat} {e0 : Ex} {s0 : St} : Clo n (CPost n e0 s0) := fun _ _ _ hs hq => ⟨hq.1, hq.2.trans hs⟩
theorem WBr.cut {A : AProg} {n : Nat} {a b : C} {s : St} {x : V} {Q : Ex → St → Prop} (e0 : Ex) (s0 : St) (h : WBr A (CPost n e0 s0) a b s x) (hQ : Clo n Q) (hq : Q e0 s0) : WBr A Q a b s x := by
  unfold WBr at h ⊢
  split at h
  · exact h.mono fun e t ⟨h1, h2⟩ => by subst h1; exact hQ _ _ _ h2 hq
  · exact h.mono fun e t ⟨h1, h2⟩ => by subst h1; exact hQ _ _ _ h2 hq
  · exact h.elim
def Heap.at (n : Nat) : Heap := { get := fun _ => none, next := n }
theorem Heap.at_get {n b : Nat} : (Heap.at n).get b = none := rfl
theorem Heap.at_next {n : Nat} : (Heap.at n).next = n := rfl
def Regs.none : Regs := fun _ => .undef
theorem Regs.none_at {i : Nat} : Regs.none i = .undef := rfl
theorem Heap.set_at (h : Heap) (b : Nat) (x : Option Blk) (c : Nat) : (h.set b x).get c = if c = b then x else h.get c := by
  by_cases hn : c = b
  · simp [Heap.set, hn]
  · simp [Heap.set, hn, beq_false_of_ne hn]
theorem Heap.set_next (h : Heap) (b : Nat) (x : Option Blk) : (h.set b x).next = h.next := rfl
def ren (l : List (Nat × Nat)) (N N' b : Nat) : Nat := if N ≤ b then b - N + N' else (l.lookup b).getD b
def renOk (n : Nat) (l : List (Nat × Nat)) (N N' : Nat) : Bool :=
  decide (n ≤ N ∧ N ≤ N') && l.all (fun x => decide (n ≤ x.1 ∧ x.1 < N ∧ x.2 < N') && (decide (N ≤ x.2) || (l.map Prod.fst).contains x.2) && l.all fun y => x.1 == y.1 || x.2 != y.2) && decide (l.map Prod.fst).Nodup
theorem lookup_some {l : List (Nat × Nat)} {b c : Nat} (h : l.lookup b = some c) : (b, c) ∈ l := by
  induction l with
  | nil => simp at h
  | cons x l ih =>
    simp only [List.lookup] at h
    split at h
    · rename_i hb
      simp only [beq_iff_eq] at hb
      cases h; subst hb; simp
    · exact List.mem_cons_of_mem _ (ih h)
theorem lookup_none {l : List (Nat × Nat)} {b : Nat} (h : l.lookup b = none) : (l.map Prod.fst).contains b = false := by
  induction l with
  | nil => rfl
  | cons x l ih =>
    simp only [List.lookup] at h
    split at h
    · cases h
    · rename_i hb
      simp only [List.map_cons, List.contains_cons, hb, ih h, Bool.or_self]
theorem ren_ok {n : Nat} {l : List (Nat × Nat)} {N N' : Nat} (h : renOk n l N N' = true) : (∀ b, b < n → ren l N N' b = b) ∧ (∀ i, ren l N N' (N + i) = N' + i) ∧ ∀ a b, ren l N N' a = ren l N N' b → a = b := by
  simp only [renOk, Bool.and_eq_true, decide_eq_true_eq, List.all_eq_true, Bool.or_eq_true, beq_iff_eq, bne_iff_ne] at h
  obtain ⟨⟨⟨h1, h2⟩, h3⟩, h4⟩ := h
  have low : ∀ {b c}, l.lookup b = some c → n ≤ b ∧ b < N ∧ c < N' ∧ (N ≤ c ∨ (l.map Prod.fst).contains c = true) := fun {b c} hb => by
    obtain ⟨⟨⟨a1, a2, a3⟩, a4⟩, _⟩ := h3 _ (lookup_some hb)
    exact ⟨a1, a2, a3, a4⟩
  refine ⟨fun b hb => ?_, fun i => ?_, fun a b e => ?_⟩
  · unfold ren
    rw [if_neg (by omega)]
    cases hl : l.lookup b with
    | none => rfl
    | some c => have := low hl; omega
  · unfold ren; rw [if_pos (by omega)]; omega
  · unfold ren at e
    split at e
    · rename_i ha
      split at e
      · omega
      · rename_i hb
        exfalso
        cases hl : l.lookup b with
        | none => rw [hl] at e; simp only [Option.getD_none] at e; omega
        | some c => rw [hl] at e; simp only [Option.getD_some] at e; have := low hl; omega
    · rename_i ha
      split at e
      · rename_i hb
        exfalso
        cases hl : l.lookup a with
        | none => rw [hl] at e; simp only [Option.getD_none] at e; omega
        | some c => rw [hl] at e; simp only [Option.getD_some] at e; have := low hl; omega
      · rename_i hb
        cases hl : l.lookup a with
        | none =>
          rw [hl] at e
          cases hm : l.lookup b with
          | none => rw [hm] at e; exact e
          | some c =>
            rw [hm] at e
            simp only [Option.getD_none, Option.getD_some] at e
            subst e
            have h5 := low hm
            have h6 := lookup_none hl
            rcases h5.2.2.2 with h7 | h7
            · omega
            · rw [h6] at h7; cases h7
        | some c =>
          rw [hl] at e
          cases hm : l.lookup b with
          | none =>
            rw [hm] at e
            simp only [Option.getD_none, Option.getD_some] at e
            subst e
            have h5 := low hl
            have h6 := lookup_none hm
            rcases h5.2.2.2 with h7 | h7
            · omega
            · rw [h6] at h7; cases h7
          | some d =>
            rw [hm] at e
            simp only [Option.getD_some] at e
            subst e
            have m1 := lookup_some hl
            have m2 := lookup_some hm
            rcases (h3 _ m1).2 _ m2 with h7 | h7
            · exact h7
            · exact absurd rfl h7
def RegsR (f : Nat → Nat) (r r' : Regs) : Prop := ∀ i, VR f (r i) (r' i)
theorem RegsR.none {f : Nat → Nat} {r' : Regs} : RegsR f Regs.none r' := fun _ => .undef _
theorem RegsR.set {f : Nat → Nat} {r r' : Regs} {t : Nat} {v : V} (hv : VR f v (r' t)) (h : RegsR f r r') : RegsR f (r.set t v) r' := fun i => by
  rw [Regs.set_at]
  split
  · rename_i hi; subst hi; exact hv
  · exact h i
def BlkR (f : Nat → Nat) : Option Blk → Option Blk → Prop
  | .none, _ => True
  | some x, some y => BR f x y
  | some _, .none => False
def BlksR (f : Nat → Nat) (h h' : Heap) : Prop := ∀ b, BlkR f (h.get b) (h'.get (f b))
theorem BlksR.at {f : Nat → Nat} {n : Nat} {h' : Heap} : BlksR f (Heap.at n) h' := fun _ => trivial
theorem BlksR.put {f : Nat → Nat} {h h' : Heap} {b : Nat} {x : Blk} (hx : BlkR f (some x) (h'.get (f b))) (k : BlksR f h h') : BlksR f (h.put b x) h' := fun c => by
  rw [Heap.put_at]
  split
  · rename_i hc; subst hc; exact hx
  · exact k c
theorem BlksR.set {f : Nat → Nat} {h h' : Heap} {b : Nat} {x : Option Blk} (hx : BlkR f x (h'.get (f b))) (k : BlksR f h h') : BlksR f (h.set b x) h' := fun c => by
  rw [Heap.set_at]
  split
  · rename_i hc; subst hc; exact hx
  · exact k c
theorem Up.of {n N N' : Nat} (l : List (Nat × Nat)) {r r' : Regs} {h h' : Heap} (h1 : h.next = N) (h2 : h'.next = N') (hl : renOk n l N N' = true) (hr : RegsR (ren l N N') r r') (hh : BlksR (ren l N N') h h') : Up n ⟨r, h⟩ ⟨r', h'⟩ := by
  obtain ⟨a, b, c⟩ := ren_ok hl
  refine ⟨ren l N N', a, hr, ?_, ?_, c⟩
  · intro k x hx
    have h3 := hh k
    have hx' : h.get k = some x := hx
    rw [hx'] at h3
    cases h4 : h'.get (ren l N N' k) with
    | none => rw [h4] at h3; exact h3.elim
    | some y => rw [h4] at h3; exact ⟨y, rfl, h3⟩
  · intro i
    show ren l N N' (h.next + i) = h'.next + i
    rw [h1, h2]; exact b i
theorem BlkR.els {f : Nat → Nat} {z fz fz' : Nat} {l l' : List V} (hz : fz' ≤ fz) (h : VRL f l l') : BlkR f (some (.els z l fz)) (some (.els z l' fz')) := BR.els hz h
theorem VR.ptr' {f : Nat → Nat} {b c i o : Nat} (h : f b = c) : VR f (.ptr b i o) (.ptr c i o) := by subst h; exact .ptr ..
theorem VR.sl' {f : Nat → Nat} {b c i o : Nat} (h : f b = c) : VR f (.sl b i o) (.sl c i o) := by subst h; exact .sl ..
theorem VR.sl'' {f : Nat → Nat} {b c i o o' : Nat} (h : f b = c) (ho : o = o') : VR f (.sl b i o) (.sl c i o') := by subst h; subst ho; exact .sl ..
theorem VR.map' {f : Nat → Nat} {b c : Nat} (h : f b = c) : VR f (.map b) (.map c) := by subst h; exact .map ..
theorem VR.yld' {f : Nat → Nat} {b c : Nat} (h : f b = c) : VR f (.yld b) (.yld c) := by subst h; exact .yld ..
theorem VR.clo' {f : Nat → Nat} {g : FuncId} {a a' b b' : List V} (h : VRL f a a') (k : VRL f b b') : VR f (.clo g a b) (.clo g a' b') := .clo h.len h.get k.len k.get
theorem VRL.refl_d {f : Nat → Nat} {α : Type} (e : α → D) (l : List α) : VRL f (l.map fun x => V.d (e x)) (l.map fun x => V.d (e x)) := by
  have := VRL.dd (f := f) (l.map e)
  rwa [List.map_map] at this
def mb (b : Nat) (l : List V) : V := match l with | [] => .d (.list true []) | _ :: _ => .sl b 0 l.length
def mbB (sz fz : Nat) (l : List V) : Option Blk := match l with | [] => .none | _ :: _ => some (.els sz l fz)
theorem mb_nil {b : Nat} : mb b [] = .d (.list true []) := rfl
theorem mbB_nil {sz fz : Nat} : mbB sz fz [] = .none := rfl
theorem VR.mb {f : Nat → Nat} {b c : Nat} {l : List V} (h : f b = c) : VR f (mb b l) (mb c l) := by
  cases l with
  | nil => exact .d _
  | cons x l => exact .sl' h
theorem VR.mb_sl {f : Nat → Nat} {b c n : Nat} {l : List V} (hl : l ≠ []) (h : f b = c) (hn : l.length = n) : VR f (AI.mb b l) (.sl c 0 n) := by
  subst hn
  cases l with
  | nil => exact absurd rfl hl
  | cons x l => exact .sl' h
theorem BlkR.mb {f : Nat → Nat} {sz fz fz' : Nat} {l : List V} (hz : fz' ≤ fz) (h : VRL f l l) : BlkR f (mbB sz fz l) (mbB sz fz' l) := by
  cases l with
  | nil => trivial
  | cons x l => exact BR.els hz h
theorem BlkR.mb_els {f : Nat → Nat} {sz fz fz' : Nat} {l l' : List V} (hz : fz' ≤ fz) (h : VRL f l l') : BlkR f (mbB sz fz l) (some (.els sz l' fz')) := by
  cases l with
  | nil => trivial
  | cons x l => exact BR.els hz h
theorem appV_mb {h : Heap} {fr sz bytes b fz : Nat} {l new : List V} {src : V} (hb : h.get b = mbB sz fz l) (hfz : l = [] → fz = 0) (hs : elsOf h src = some new) (hne : new ≠ []) (hz : sized sz new = true) (hr : (l.length + new.length) * bytes ≤ roomBytes) :
    appV h fr sz bytes (mb b l) src = some (.sl fr 0 (l.length + new.length), (h.set b .none).put fr (.els sz (l ++ new) fz)) := by
  rw [appV_eq, hs, appO_ne hne hz]
  cases l with
  | nil =>
    have : h.set b .none = h := by
      have : (h.set b Option.none).get = h.get := by
        funext c
        rw [Heap.set_at]
        split
        · rename_i hc; subst hc; exact hb.symm
        · rfl
      cases h; simp only [Heap.set] at this ⊢; rw [this]
    simp only [mb, appD, List.length_nil, Nat.zero_add, List.nil_append] at hr ⊢
    rw [if_pos hr, this, hfz rfl]
  | cons x l =>
    simp only [mb, appD_sl, hb, mbB]
    rw [appB_some rfl hr]
    rfl
theorem lenV_mb {h : Heap} {b : Nat} {l : List V} : lenV h .sl (mb b l) = some l.length := by cases l <;> rfl
theorem isSl_mb {b : Nat} {l : List V} : (mb b l).isSl = true := by cases l <;> rfl
def rd {α : Type} (l : List α) (i : Int) : Option α := if 0 ≤ i then l[i.toNat]? else .none
theorem rd_pos {α : Type} {l : List α} {i : Int} {x : α} (h : rd l i = some x) : decide (0 ≤ i) = true := by
  unfold rd at h; split at h
  · rename_i hi; simpa using hi
  · cases h
theorem rd_ge {α : Type} {l : List α} {i : Int} {x : α} (h : rd l i = some x) : 0 ≤ i := by simpa using rd_pos h
theorem rd_get {α : Type} {l : List α} {i : Int} {x : α} (h : rd l i = some x) : l[i.toNat]? = some x := by
  unfold rd at h; split at h
  · exact h
  · cases h
theorem rd_map {α β : Type} {l : List α} {i : Int} {x : α} (e : α → β) (h : rd l i = some x) : (l.map e)[i.toNat]? = some (e x) := by
  rw [List.getElem?_map, rd_get h]; rfl
theorem rd_nat {α : Type} {l : List α} {k : Nat} (h : k < l.length) : rd l (k : Int) = some l[k] := by
  unfold rd; rw [if_pos (by omega)]; simp [h]
open Classical in
noncomputable def dec {α : Type} (e : α → D) (x : Option D) : Option α := if h : ∃ y, x = some (e y) then some (Classical.choose h) else .none
theorem dec_some {α : Type} {e : α → D} {x : Option D} {y : α} (h : dec e x = some y) : x = some (e y) := by
  unfold dec at h
  split at h
  · rename_i hx; cases h; exact Classical.choose_spec hx
  · cases h
theorem dec_eq {α : Type} {e : α → D} (he : ∀ a b, e a = e b → a = b) (y : α) : dec e (some (e y)) = some y := by
  unfold dec
  have hx : ∃ z, some (e y) = some (e z) := ⟨y, rfl⟩
  rw [dif_pos hx]
  have := Classical.choose_spec hx
  rw [Option.some.injEq] at this
  rw [← he _ _ this]
def eT2 {α β : Type} (e : α → D) (f : β → D) (x : α × β) : D := .tuple [e x.1, f x.2]
def eT3 {α β γ : Type} (e : α → D) (f : β → D) (g : γ → D) (x : α × β × γ) : D := .tuple [e x.1, f x.2.1, g x.2.2]
def eT4 {α β γ δ : Type} (e : α → D) (f : β → D) (g : γ → D) (k : δ → D) (x : α × β × γ × δ) : D := .tuple [e x.1, f x.2.1, g x.2.2.1, k x.2.2.2]
def eT5 {α β γ δ ε : Type} (e : α → D) (f : β → D) (g : γ → D) (k : δ → D) (m : ε → D) (x : α × β × γ × δ × ε) : D := .tuple [e x.1, f x.2.1, g x.2.2.1, k x.2.2.2.1, m x.2.2.2.2]
theorem eT2_eq {α β : Type} {e : α → D} {f : β → D} {x : α × β} : eT2 e f x = .tuple [e x.1, f x.2] := rfl
theorem eT3_eq {α β γ : Type} {e : α → D} {f : β → D} {g : γ → D} {x : α × β × γ} : eT3 e f g x = .tuple [e x.1, f x.2.1, g x.2.2] := rfl
theorem eT4_eq {α β γ δ : Type} {e : α → D} {f : β → D} {g : γ → D} {k : δ → D} {x : α × β × γ × δ} : eT4 e f g k x = .tuple [e x.1, f x.2.1, g x.2.2.1, k x.2.2.2] := rfl
theorem eT5_eq {α β γ δ ε : Type} {e : α → D} {f : β → D} {g : γ → D} {k : δ → D} {m : ε → D} {x : α × β × γ × δ × ε} : eT5 e f g k m x = .tuple [e x.1, f x.2.1, g x.2.2.1, k x.2.2.2.1, m x.2.2.2.2] := rfl
section
variable {A : AProg} {g : Rg} {rest : List (SOp × Option (Nat × Bool))} {i fr sz bytes : Nat} {env : Regs} {H : Heap}
theorem WGuard_pure {o : SOp} {b : Bool} {v : V} (he : b = true → evalOp (ans g.A) g.A.sh (g.base + i) env g.r H o = some (v, H)) (k : WReg g rest (i + 1) (env.set i (bif b then v else .d (.tuple []))) H) : WGuard g o rest i env H b := by
  cases b
  · exact k
  · show WVal g rest i env (evalOp (ans g.A) g.A.sh (g.base + i) env g.r H o)
    rw [he rfl]; exact k
theorem WVal_pc {f : FuncId} {ds : List D} {y : D} (hr : pc A f ds = some y) (k : WReg g rest (i + 1) (env.set i (.d y)) H) : WVal g rest i env (keepD H (pc A f ds)) := by rw [hr]; exact k
theorem WVal_app0 {src : V} {new : List V} (he : elsOf H src = some new) (hne : new ≠ []) (hs : sized sz new = true) (hr : new.length * bytes ≤ roomBytes) (k : WReg g rest (i + 1) (env.set i (.sl fr 0 new.length)) (H.put fr (.els sz new 0))) : WVal g rest i env (appV H fr sz bytes (.d (.list true [])) src) := by
  rw [appV_eq, he, appO_ne hne hs]
  simp only [appD]
  rw [if_pos hr]
  exact k
theorem WVal_appM {src : V} {b fz : Nat} {l new : List V} (hb : H.get b = mbB sz fz l) (hfz : l = [] → fz = 0) (he : elsOf H src = some new) (hne : new ≠ []) (hs : sized sz new = true) (hr : (l.length + new.length) * bytes ≤ roomBytes) (k : WReg g rest (i + 1) (env.set i (.sl fr 0 (l.length + new.length))) ((H.set b .none).put fr (.els sz (l ++ new) fz))) : WVal g rest i env (appV H fr sz bytes (mb b l) src) := by
  rw [appV_mb hb hfz he hne hs hr]; exact k
theorem WVal_appS {src : V} {b fz len : Nat} {l new : List V} (hb : H.get b = some (.els sz l fz)) (he : elsOf H src = some new) (hne : new ≠ []) (hs : sized sz new = true) (hl : l.length = len) (hr : (len + new.length) * bytes ≤ roomBytes) (k : WReg g rest (i + 1) (env.set i (.sl fr 0 (len + new.length))) ((H.del b).put fr (.els sz (l ++ new) fz))) : WVal g rest i env (appV H fr sz bytes (.sl b 0 len) src) := by
  rw [appV_eq, he, appO_ne hne hs, appD_sl, hb, appB_some hl hr]; exact k
end
theorem cond_same {α : Type} {c : Bool} {x y z : α} : (bif c then (bif c then x else y) else z) = bif c then x else z := by cases c <;> rfl
theorem cond_same' {α : Type} {c : Bool} {x y z : α} : (bif c then x else (bif c then y else z)) = bif c then x else z := by cases c <;> rfl
theorem cond_not1 {α : Type} {c : Bool} {x y z : α} : (bif c then x else (bif !c then y else z)) = bif c then x else y := by cases c <;> rfl
theorem cond_not2 {α : Type} {c : Bool} {x y z : α} : (bif !c then x else (bif c then y else z)) = bif !c then x else y := by cases c <;> rfl
theorem bif_d_int {c : Bool} {k : IntKind} {x y : Int} : (bif c then V.d (.int k x) else V.d (.int k y)) = V.d (.int k (bif c then x else y)) := by cases c <;> rfl
theorem bif_d_str {c : Bool} {x y : List UInt8} : (bif c then V.d (.str x) else V.d (.str y)) = V.d (.str (bif c then x else y)) := by cases c <;> rfl
theorem VRL.eq_d {f : Nat → Nat} {α : Type} {e : α → D} {l : List α} {m : List V} (h : m = l.map fun z => V.d (e z)) : VRL f (l.map fun z => V.d (e z)) m := by subst h; exact .refl_d e l
theorem BlkR.refl_d {f : Nat → Nat} {z fz : Nat} {x : D} : BlkR f (some (.els z [.d x] fz)) (some (.els z [.d x] fz)) := BlkR.els (Nat.le_refl _) (VRL.dd [x])
theorem BlkR.arr {f : Nat → Nat} {sz fz fz' : Nat} {α : Type} {e : α → D} {l : List α} {m : List V} (h : m = l.map fun z => V.d (e z)) (hz : fz' ≤ fz) : BlkR f (some (.els sz (l.map fun z => V.d (e z)) fz)) (some (.els sz m fz')) := BlkR.els hz (.eq_d h)
theorem bif_true {a b : Bool} (h : (bif a then b else false) = true) : a = true ∧ b = true := by cases a <;> simp_all
theorem isNil_mb {b : Nat} {l : List V} : isNil (mb b l) = some l.isEmpty := by cases l <;> rfl
def Frz (h h' : Heap) : Prop := ∀ b z l fz, h.get b = some (.els z l fz) → ∃ fz', h'.get b = some (.els z l fz')
theorem Frz.refl {h : Heap} : Frz h h := fun _ _ _ fz e => ⟨fz, e⟩
theorem Frz.trans {a b c : Heap} (x : Frz a b) (y : Frz b c) : Frz a c := fun k z l fz e => by
  obtain ⟨fz', e'⟩ := x k z l fz e
  exact y k z l fz' e'
theorem Frz.freeze {h : Heap} {b n : Nat} : Frz h (freeze h b n) := fun k z l fz e => by
  rw [freeze_get]
  split
  · rename_i hk; subst hk; rw [e]; exact ⟨_, rfl⟩
  · exact ⟨fz, e⟩
theorem Frz.mono {h h' : Heap} (x : Frz h h') (b n : Nat) {z fz : Nat} {l : List V} (e : h.get b = some (.els z l fz)) : Frz (AI.freeze h b n) (AI.freeze h' b n) := fun k z' l' fz' e' => by
  rw [freeze_get] at e' ⊢
  split at e'
  · rename_i hk; subst hk
    rw [e] at e'
    cases e'
    obtain ⟨f2, e2⟩ := x k z l fz e
    rw [if_pos rfl, e2]; exact ⟨_, rfl⟩
  · rename_i hk; rw [if_neg hk]; exact x k z' l' fz' e'
theorem res_frz : ∀ (n : Nat) {h h' h1 : Heap} {v : V} {x : D}, res n h v = some (x, h1) → Frz h h' → ∃ h1', res n h' v = some (x, h1') ∧ Frz h' h1' ∧ Frz h1 h1'
  | 0, h, h', h1, v, x, e, F => by
    cases v with
    | d y => simp only [res_d, Option.some.injEq, Prod.mk.injEq] at e ⊢; obtain ⟨rfl, rfl⟩ := e; exact ⟨h', ⟨rfl, rfl⟩, .refl, F⟩
    | _ => simp [res] at e
  | n + 1, h, h', h1, v, x, e, F => by
    have go : ∀ (cs : List V) (h h' h1 : Heap) (xs : List D), Frz h h' → resGo (res n) h cs = some (xs, h1) → ∃ h1', resGo (res n) h' cs = some (xs, h1') ∧ Frz h' h1' ∧ Frz h1 h1' := by
      intro cs
      induction cs with
      | nil => intro h h' h1 xs F e; simp only [resGo, Option.some.injEq, Prod.mk.injEq] at e ⊢; obtain ⟨rfl, rfl⟩ := e; exact ⟨h', ⟨rfl, rfl⟩, .refl, F⟩
      | cons c cs ih =>
        intro h h' h1 xs F e
        simp only [resGo] at e
        obtain ⟨⟨y1, g1⟩, e2, e⟩ := Option.bind_eq_some_iff.1 e
        obtain ⟨⟨y2, g2⟩, e3, e⟩ := Option.map_eq_some_iff.1 e
        simp only [Prod.mk.injEq] at e
        obtain ⟨rfl, rfl⟩ := e
        obtain ⟨k1, a1, K1, L1⟩ := res_frz n e2 F
        obtain ⟨k2, a2, K2, L2⟩ := ih _ _ _ _ L1 e3
        exact ⟨k2, by simp only [resGo, a1, Option.bind_some, a2, Option.map_some], K1.trans K2, L2⟩
    have all : ∀ (cs : List V) (h h' h1 : Heap) (xs : List D), Frz h h' → resL (res n) h cs = some (xs, h1) → ∃ h1', resL (res n) h' cs = some (xs, h1') ∧ Frz h' h1' ∧ Frz h1 h1' := by
      intro cs h h' h1 xs F e
      unfold resL at e ⊢
      split at e
      · simp only [Option.some.injEq, Prod.mk.injEq] at e; obtain ⟨rfl, rfl⟩ := e; exact ⟨h', rfl, .refl, F⟩
      · exact go _ _ _ _ _ F e
    cases v with
    | d y => simp only [res_d, Option.some.injEq, Prod.mk.injEq] at e ⊢; obtain ⟨rfl, rfl⟩ := e; exact ⟨h', ⟨rfl, rfl⟩, .refl, F⟩
    | sl b off len =>
      simp only [res] at e ⊢
      split at e
      · rename_i z l fz hb
        obtain ⟨fz', hb'⟩ := F b z l fz hb
        simp only [hb']
        split at e
        · rename_i hle
          rw [if_pos hle]
          obtain ⟨⟨xs, g⟩, e1, e⟩ := Option.map_eq_some_iff.1 e
          simp only [Prod.mk.injEq] at e
          obtain ⟨rfl, rfl⟩ := e
          obtain ⟨k, a, K, K2⟩ := all _ _ _ _ _ (F.mono b (off + len) hb) e1
          exact ⟨k, by rw [a]; rfl, Frz.freeze.trans K, K2⟩
        · cases e
      · cases e
    | agg cs =>
      simp only [res] at e ⊢
      obtain ⟨⟨xs, g⟩, e1, e⟩ := Option.map_eq_some_iff.1 e
      simp only [Prod.mk.injEq] at e
      obtain ⟨rfl, rfl⟩ := e
      obtain ⟨k, a, K⟩ := all _ _ _ _ _ F e1
      exact ⟨k, by rw [a]; rfl, K⟩
    | tuple cs =>
      simp only [res] at e ⊢
      obtain ⟨⟨xs, g⟩, e1, e⟩ := Option.map_eq_some_iff.1 e
      simp only [Prod.mk.injEq] at e
      obtain ⟨rfl, rfl⟩ := e
      obtain ⟨k, a, K⟩ := all _ _ _ _ _ F e1
      exact ⟨k, by rw [a]; rfl, K⟩
    | _ => simp [res] at e
def Rd (n : Nat) (h : Heap) (v : V) (x : D) : Prop := ∃ h1, res n h v = some (x, h1) ∧ Frz h h1
def RdL (n : Nat) (h : Heap) : List V → List D → Prop
  | [], [] => True
  | v :: vs, x :: xs => Rd n h v x ∧ RdL n h vs xs
  | _, _ => False
theorem Rd.d {n : Nat} {h : Heap} {x : D} : Rd n h (.d x) x := ⟨h, res_d, .refl⟩
theorem Rd.keep {n : Nat} {h h' : Heap} {v : V} {x : D} (r : Rd n h v x) (F : Frz h h') : Rd n h' v x := by
  obtain ⟨h1, e, _⟩ := r
  obtain ⟨h1', e', F', _⟩ := res_frz n e F
  exact ⟨h1', e', F'⟩
theorem RdL.keep {n : Nat} {h h' : Heap} : ∀ {vs : List V} {xs : List D}, RdL n h vs xs → Frz h h' → RdL n h' vs xs
  | [], [], _, _ => trivial
  | _ :: _, _ :: _, r, F => ⟨r.1.keep F, RdL.keep r.2 F⟩
theorem RdL.go {n : Nat} : ∀ {vs : List V} {xs : List D} {h : Heap}, RdL n h vs xs → ∃ h1, resGo (res n) h vs = some (xs, h1) ∧ Frz h h1
  | [], [], h, _ => ⟨h, rfl, .refl⟩
  | v :: vs, x :: xs, h, r => by
    obtain ⟨⟨h1, e1, F1⟩, r2⟩ := r
    obtain ⟨h2, e2, F2⟩ := RdL.go (r2.keep F1)
    exact ⟨h2, by simp only [resGo, e1, Option.bind_some, e2, Option.map_some], F1.trans F2⟩
theorem RdL.all {n : Nat} {vs : List V} {xs : List D} {h : Heap} (r : RdL n h vs xs) : ∃ h1, resL (res n) h vs = some (xs, h1) ∧ Frz h h1 := by
  unfold resL
  cases hd : allD vs with
  | none => exact r.go
  | some ds =>
    have := allD_eqs hd
    subst this
    have key : ∀ (ds xs : List D), RdL n h (ds.map V.d) xs → xs = ds := by
      intro ds
      induction ds with
      | nil => intro xs r; cases xs with | nil => rfl | cons x xs => exact r.elim
      | cons d ds ih =>
        intro xs r
        cases xs with
        | nil => exact r.elim
        | cons x xs =>
          obtain ⟨⟨h1, e, _⟩, r2⟩ := r
          rw [res_d] at e
          cases e
          rw [ih xs r2]
    rw [key ds xs r]
    exact ⟨h, rfl, .refl⟩
theorem Rd.tuple {n : Nat} {vs : List V} {xs : List D} {h : Heap} (r : RdL n h vs xs) : Rd (n + 1) h (V.ofTuple vs) (.tuple xs) := by
  obtain ⟨h1, e, F⟩ := r.all
  unfold V.ofTuple
  unfold resL at e
  cases hd : allD vs with
  | none =>
    rw [hd] at e
    have e : resGo (res n) h vs = some (xs, h1) := e
    exact ⟨h1, by simp only [res, resL, hd]; rw [e]; rfl, F⟩
  | some ds => rw [hd] at e; cases e; exact .d
theorem Rd.agg {n : Nat} {vs : List V} {xs : List D} {h : Heap} (r : RdL n h vs xs) : Rd (n + 1) h (V.ofCells vs) (.agg xs) := by
  obtain ⟨h1, e, F⟩ := r.all
  unfold V.ofCells
  unfold resL at e
  cases hd : allD vs with
  | none =>
    rw [hd] at e
    have e : resGo (res n) h vs = some (xs, h1) := e
    exact ⟨h1, by simp only [res, resL, hd]; rw [e]; rfl, F⟩
  | some ds => rw [hd] at e; cases e; exact .d
theorem Rd.sl {n b len sz fz : Nat} {h : Heap} {α : Type} {e : α → D} {l : List α} {m : List V} (hb : h.get b = some (.els sz m fz)) (hm : m = l.map fun z => V.d (e z)) (hl : l.length = len) : Rd (n + 1) h (.sl b 0 len) (.list false (l.map e)) := by
  subst hm
  refine ⟨freeze h b len, ?_, .freeze⟩
  rw [res_sl, hb, resB_mapF hl]
theorem Rd.mb {n b sz fz : Nat} {h : Heap} {α : Type} {e : α → D} {l : List α} (hb : h.get b = mbB sz fz (l.map fun z => V.d (e z))) : Rd (n + 1) h (mb b (l.map fun z => V.d (e z))) (.list l.isEmpty (l.map e)) := by
  cases l with
  | nil => exact .d
  | cons x l => exact Rd.sl hb rfl (by simp)
theorem Reads.of {h : Heap} {v : V} {x y : D} (r : Rd 8 h v x) (hy : y = x) : Reads y v h := by
  subst hy
  obtain ⟨h1, e, _⟩ := r
  unfold Reads
  rw [e]; rfl
theorem Rd.eq {n : Nat} {h : Heap} {v : V} {x y : D} (r : Rd n h v x) (hy : x = y) : Rd n h v y := by subst hy; exact r
theorem RdL.nil {n : Nat} {h : Heap} : RdL n h [] [] := trivial
theorem RdL.cons {n : Nat} {h : Heap} {v : V} {x : D} {vs : List V} {xs : List D} (a : Rd n h v x) (b : RdL n h vs xs) : RdL n h (v :: vs) (x :: xs) := ⟨a, b⟩
theorem Reads.ofv {h : Heap} {v v' : V} {x y : D} (hv : v = v') (r : Rd 8 h v' x) (hy : y = x) : Reads y v h := by subst hv; exact .of r hy
theorem resGo_d {n : Nat} {h : Heap} : ∀ l : List D, resGo (res n) h (l.map V.d) = some (l, h)
  | [] => rfl
  | x :: l => by simp only [List.map_cons, resGo, res_d, Option.bind_some, resGo_d l, Option.map_some]
theorem resLo_go {n : Nat} {h : Heap} {l : List V} : resLo (res n) h l (allD l) = resGo (res n) h l := by
  cases hd : allD l with
  | none => rfl
  | some ds => rw [allD_eqs hd, resGo_d]; rfl
def resMB (n b : Nat) (l : List V) (h : Heap) : Option Blk → Option (D × Heap)
  | x => match l with
    | [] => some (.list true [], h)
    | y :: l => resB n b (l.length + 1) h x
theorem res_mb {n b : Nat} {l : List V} {h : Heap} : res (n + 1) h (mb b l) = resMB n b l h (h.get b) := by
  cases l with
  | nil => rfl
  | cons x l => simp only [mb, resMB, List.length_cons]; exact res_sl
theorem freeze_none {h : Heap} {b n : Nat} (hb : h.get b = none) : freeze h b n = h := by unfold freeze; rw [hb]
theorem resMB_map {n b sz fz : Nat} {h : Heap} {α : Type} {e : α → D} {l : List α} (hb : h.get b = mbB sz fz (l.map fun z => V.d (e z))) : resMB n b (l.map fun z => V.d (e z)) h (mbB sz fz (l.map fun z => V.d (e z))) = some (.list l.isEmpty (l.map e), freeze h b l.length) := by
  cases l with
  | nil => rw [freeze_none hb]; rfl
  | cons x l =>
    simp only [List.map_cons, resMB, mbB]
    have := resB_mapF (h := h) (f := e) (n := n) (b := b) (z := sz) (fz := fz) (xs := x :: l) (len := (x :: l).length) rfl
    simp only [List.map_cons, List.length_cons, List.length_map] at this ⊢
    rw [this]; rfl
theorem mbB_frz {sz fz n : Nat} {l : List V} : (mbB sz fz l).map (frzB n) = mbB sz (if n ≤ fz then fz else n) l := by cases l <;> rfl
theorem isEmpty_mapd {α : Type} {e : α → V} {l : List α} : (l.map e).isEmpty = l.isEmpty := by cases l <;> rfl
def cut {α : Type} (l : List α) (lo hi : Int) : Option (List α) := if 0 ≤ lo ∧ lo ≤ hi ∧ hi ≤ l.length then some ((l.drop lo.toNat).take (hi.toNat - lo.toNat)) else none
section
variable {A : AProg} {g : Rg} {rest : List (SOp × Option (Nat × Bool))} {i fr sz bytes : Nat} {env : Regs} {H : Heap}
end
theorem mapVd {α : Type} {e : α → D} {l : List α} : (l.map e).map V.d = l.map fun z => V.d (e z) := by rw [List.map_map]; rfl
theorem kindOf_mb {b : Nat} {l : List V} : kindOf (mb b l) = .slice := by cases l <;> rfl
section
variable {A : AProg} {g : Rg} {rest : List (SOp × Option (Nat × Bool))} {i : Nat} {env : Regs} {H : Heap}
def InlPost (g : Rg) (rest : List (SOp × Option (Nat × Bool))) (i : Nat) (env : Regs) (v : V) (h : Heap) : Prop := WReg g rest (i + 1) (env.set i v) h
theorem InlPost_eq {v : V} {h : Heap} : InlPost g rest i env v h = WReg g rest (i + 1) (env.set i v) h := rfl
theorem WVal_inl {f : FuncId} {fn : AFn} {args : List V} (hp : A.prim f = none) (hf : A.fns f = some fn) (hb : Wp A fn.body { r := fun i => args.getD i .undef, h := H } (RetPost fn.results (InlPost g rest i env))) : WVal g rest i env (ans A (.d (.fn f)) args H) := by
  obtain ⟨v, h', e, r⟩ := ans_of hp hf hb
  rw [e]; exact r
end
def Self (n : Nat) (v : V) : Prop := ∀ f : Nat → Nat, (∀ b, b < n → f b = b) → VR f v v
def SelfR (n : Nat) (r : Regs) : Prop := ∀ i, Self n (r i)
theorem Self.undef {n : Nat} : Self n .undef := fun _ _ => .undef _
theorem Self.d {n : Nat} {x : D} : Self n (.d x) := fun _ _ => .d x
theorem Self.rp {n o : Nat} {x : D} : Self n (.rp x o) := fun _ _ => .rp x o
theorem Self.ptr {n b i o : Nat} (h : b < n) : Self n (.ptr b i o) := fun _ hf => .ptr' (hf b h)
theorem Self.sl {n b i o : Nat} (h : b < n) : Self n (.sl b i o) := fun _ hf => .sl' (hf b h)
theorem Self.map {n b : Nat} (h : b < n) : Self n (.map b) := fun _ hf => .map' (hf b h)
theorem Self.yld {n b : Nat} (h : b < n) : Self n (.yld b) := fun _ hf => .yld' (hf b h)
theorem Self.mb {n b : Nat} {l : List V} (h : b < n) : Self n (mb b l) := fun _ hf => .mb (hf b h)
def SelfL (n : Nat) : List V → Prop
  | [] => True
  | v :: l => Self n v ∧ SelfL n l
theorem SelfL.nil {n : Nat} : SelfL n [] := trivial
theorem SelfL.cons {n : Nat} {v : V} {l : List V} (a : Self n v) (b : SelfL n l) : SelfL n (v :: l) := ⟨a, b⟩
theorem SelfL.vrl {n : Nat} {f : Nat → Nat} (hf : ∀ b, b < n → f b = b) : ∀ {l : List V}, SelfL n l → VRL f l l
  | [], _ => .nil
  | _ :: _, h => .cons (h.1 f hf) (SelfL.vrl hf h.2)
theorem Self.clo {n : Nat} {g : FuncId} {a b : List V} (h : SelfL n a) (k : SelfL n b) : Self n (.clo g a b) := fun _ hf => .clo' (h.vrl hf) (k.vrl hf)
theorem Self.ofCells {n : Nat} {a : List V} (h : SelfL n a) : Self n (V.ofCells a) := fun _ hf => (h.vrl hf).ofCells
theorem Self.agg {n : Nat} {a : List V} (h : SelfL n a) : Self n (.agg a) := fun _ hf => (h.vrl hf).agg
theorem Self.tuple {n : Nat} {a : List V} (h : SelfL n a) : Self n (.tuple a) := fun _ hf => (h.vrl hf).tuple
theorem Self.bif {n : Nat} {c : Bool} {a b : V} (h : Self n a) (k : Self n b) : Self n (bif c then a else b) := by cases c; exact k; exact h
theorem SelfR.no {n : Nat} : SelfR n noEnv := fun _ => .undef
theorem SelfR.none {n : Nat} : SelfR n Regs.none := fun _ => .undef
theorem SelfR.set {n : Nat} {r : Regs} {t : Nat} {v : V} (h : Self n v) (k : SelfR n r) : SelfR n (r.set t v) := fun i => by
  rw [Regs.set_at]; split
  · exact h
  · exact k i
theorem SelfL.get {n : Nat} : ∀ {l : List V}, SelfL n l → ∀ i, Self n (l.getD i .undef)
  | [], _, i => by simp; exact .undef
  | v :: l, h, 0 => h.1
  | v :: l, h, i + 1 => by simpa using SelfL.get h.2 i
theorem SelfR.args {n : Nat} {l : List V} (h : SelfL n l) : SelfR n (fun i => l.getD i .undef) := fun i => h.get i
theorem Clo.mono {n n' : Nat} {Q : Ex → St → Prop} (hn : n' ≤ n) (h : Clo n' Q) : Clo n Q := fun e s t ⟨f, hf, S⟩ hq => h e s t ⟨f, fun b hb => hf b (by omega), S⟩ hq
theorem WReg_clo {A : AProg} (hA : A.Loc) {n n' : Nat} {g : Rg} {rest : List (SOp × Option (Nat × Bool))} {i : Nat} {env : Regs} (hg : g.A = A) (hops : g.ops.zipIdx.all (locOp g.pairs) = true) (hrest : rest = g.ops.drop (i + 1)) (henv : SelfR n env) (hr : SelfR n g.r) (hb : g.base + g.ops.length ≤ n) (hn : n' ≤ n) (hQ : Clo n' g.Q) {f : Nat → Nat} (hf : ∀ b, b < n → f b = b) {v v' : V} {h h' : Heap} (h4 : VR f v v') (H : HR f h h') (h2 : WReg g rest (i + 1) (env.set i v) h) : WReg g rest (i + 1) (env.set i v') h' := by
  obtain ⟨k, env', hF0, e1, hp, hq⟩ := h2
  have hl0 : ∀ x ∈ g.ops.zipIdx 0, locOp g.pairs x = true := by simpa [List.all_eq_true] using hops
  have hl : ∀ x ∈ rest.zipIdx (i + 1), locOp g.pairs x = true := by
    intro x hx
    refine hl0 x ?_
    obtain ⟨o, j⟩ := x
    rw [List.mem_zipIdx_iff_le_and_getElem?_sub] at hx
    rw [List.mem_zipIdx_iff_getElem?]
    obtain ⟨h5, h6⟩ := hx
    rw [hrest, List.getElem?_drop] at h6
    rw [show i + 1 + (j - (i + 1)) = j by omega] at h6
    simpa using h6
  have hbl : ∀ j, g.pairs.contains (j, j) = true → boolish (env' j) = true := fun j hj => by
    simp only [pairsOk, List.all_eq_true] at hp
    have := hp (j, j) (by simpa using hj)
    simpa using this
  have hgd : ∀ (k : Nat) o j w, g.ops[k]? = some (o, some (j, w)) → boolish (env' j) = true := fun k o j w hk => by
    have := hl0 ((o, some (j, w)), k) (List.mem_zipIdx_iff_getElem?.2 (by simpa using hk))
    simp only [locOp, Bool.and_eq_true] at this
    exact hbl j this.2.2
  have hbs : ∀ j, j < g.ops.length → f (g.base + j) = g.base + j := fun j hj => hf _ (by omega)
  by_cases hi : i + 1 ≤ g.ops.length
  · have hlen : i + 1 + rest.length ≤ g.ops.length := by rw [hrest, List.length_drop]; omega
    obtain ⟨envF, hF, e2, he2, H2⟩ := evalOps_ren (appN_ren (hg ▸ hA) k) (N := g.ops.length) hbs (fun j => hr j f hf) hbl rest hlen hl (set_ren (fun j => henv j f hf) h4 i) H e1
    exact ⟨k, envF, hF, e2, pairs_ren H.inj hbs he2 (fun j => hr j f hf) hgd hp, hQ _ _ _ ⟨f, fun b hb => hf b (by omega), outs_ren he2 g.outs (fun j => hr j f hf), H2⟩ hq⟩
  · have hnil : rest = [] := by rw [hrest, List.drop_eq_nil_of_le (by omega)]
    subst hnil
    simp only [evalOps, Option.some.injEq, Prod.mk.injEq] at e1
    obtain ⟨rfl, rfl⟩ := e1
    have he2 : ∀ j, VR f (env.set i v j) (env.set i v' j) := set_ren (fun j => henv j f hf) h4 i
    exact ⟨k, _, _, rfl, pairs_ren H.inj hbs he2 (fun j => hr j f hf) hgd hp, hQ .normal { r := outsR (env.set i v) g.outs g.r, h := h } _ ⟨f, fun b hb => hf b (by omega), outs_ren he2 g.outs (fun j => hr j f hf), H⟩ hq⟩
theorem Clo.inl {A : AProg} (hA : A.Loc) {n n' : Nat} {g : Rg} {rs : List RV} {rest : List (SOp × Option (Nat × Bool))} {i : Nat} {env : Regs} (hg : g.A = A) (hops : g.ops.zipIdx.all (locOp g.pairs) = true) (hrest : rest = g.ops.drop (i + 1)) (henv : SelfR n env) (hr : SelfR n g.r) (hb : g.base + g.ops.length ≤ n) (hn : n' ≤ n) (hQ : Clo n' g.Q) : Clo n (RetPost rs (InlPost g rest i env)) := fun e s t ⟨f, hf, S⟩ hq => by
  have key : ∀ {vs : List V}, resultsV s rs = some vs → InlPost g rest i env (oneOr vs) s.h → ∃ vs', resultsV t rs = some vs' ∧ InlPost g rest i env (oneOr vs') t.h := by
    intro vs h1 h2
    obtain ⟨vs', h3, h4⟩ := results_ren S h1
    exact ⟨vs', h3, WReg_clo hA hg hops hrest henv hr hb hn hQ hf h4.oneOr S.h h2⟩
  cases e with
  | normal => obtain ⟨vs, h1, h2⟩ := hq; exact key h1 h2
  | ret => obtain ⟨vs, h1, h2⟩ := hq; exact key h1 h2
  | exit id => exact hq
def Ex.jmp : Ex → Option Jump | .normal => none | .exit id => some (.exit id) | .ret => some .ret
def Jump.exo : Option Jump → Ex | none => .normal | some j => j.ex
def rfGet (b : Nat) (s : St) (Q : Ex → St → Prop) (h : Heap) : Option Blk → Prop
  | some (.loop l) => l.state ≠ .busy ∧ Q (Jump.exo l.pending) { r := s.r, h := h.put b (.loop { l with state := .exhausted }) }
  | _ => False
def RfPost (b : Nat) (s : St) (Q : Ex → St → Prop) (_ : V) (h : Heap) : Prop := rfGet b s Q h (h.get b)
theorem RfPost_eq {b : Nat} {s : St} {Q : Ex → St → Prop} {v : V} {h : Heap} : RfPost b s Q v h = rfGet b s Q h (h.get b) := rfl
theorem rfGet_loop {b : Nat} {s : St} {Q : Ex → St → Prop} {h : Heap} {l : LoopB} : rfGet b s Q h (some (.loop l)) = (l.state ≠ .busy ∧ Q (Jump.exo l.pending) { r := s.r, h := h.put b (.loop { l with state := .exhausted }) }) := rfl
theorem exo_none : Jump.exo none = .normal := rfl
theorem exo_ret : Jump.exo (some .ret) = .ret := rfl
theorem exo_exit {id : Nat} : Jump.exo (some (.exit id)) = .exit id := rfl
theorem jmp_normal : Ex.jmp .normal = none := rfl
theorem jmp_ret : Ex.jmp .ret = some .ret := rfl
theorem jmp_exit {id : Nat} : Ex.jmp (.exit id) = some (.exit id) := rfl
theorem Wp.rfuncC {A : AProg} {s : St} {Q : Ex → St → Prop} {f : Opd} {ps : List Nat} {c d : C} {k : FuncId} {fn : AFn} {first cap : List V} (hv : opd noEnv s.r f = .clo k first cap) (hp : A.prim k = none) (hf : A.fns k = some fn) (hb : Wp A fn.body { r := fun i => (first ++ [V.yld s.h.next] ++ cap).getD i .undef, h := (s.h.put s.h.next (.loop { regs := s.r, params := ps, assign := c, body := d, state := .ready, pending := none })).bump 1 } (RetPost fn.results (RfPost s.h.next s Q))) : Wp A (.rfunc f ps c d) s Q := by
  obtain ⟨v, h', e, r⟩ := ans_ofClo hp hf hb
  rw [RfPost_eq] at r
  refine Wp.rfunc (by rw [hv]; rfl) ⟨v, h', by rw [hv]; exact e, ?_⟩
  cases hg : h'.get s.h.next with
  | none => rw [hg] at r; exact r.elim
  | some x =>
    rw [hg] at r
    cases x with
    | loop l =>
      refine ⟨l, rfl, r.1, ?_⟩
      have := r.2
      cases hpd : l.pending with
      | none => rw [hpd] at this; exact this
      | some j => rw [hpd] at this; exact this
    | _ => exact r.elim
section
variable {A : AProg} {g : Rg} {rest : List (SOp × Option (Nat × Bool))} {i : Nat} {env : Regs} {H : Heap}
def yGet (g : Rg) (rest : List (SOp × Option (Nat × Bool))) (i : Nat) (env : Regs) (b : Nat) (e : Ex) (h : Heap) : Option Blk → Prop
  | some (.loop l) => WReg g rest (i + 1) (env.set i (.d (.bool e.jmp.isNone))) (h.put b (.loop { l with state := if e.jmp.isNone = true then .ready else .done, pending := e.jmp }))
  | _ => False
def YPost (g : Rg) (rest : List (SOp × Option (Nat × Bool))) (i : Nat) (env : Regs) (b : Nat) (e : Ex) (s : St) : Prop := yGet g rest i env b e s.h (s.h.get b)
theorem YPost_eq {b : Nat} {e : Ex} {s : St} : YPost g rest i env b e s = yGet g rest i env b e s.h (s.h.get b) := rfl
theorem yGet_loop {b : Nat} {e : Ex} {h : Heap} {l : LoopB} : yGet g rest i env b e h (some (.loop l)) = WReg g rest (i + 1) (env.set i (.d (.bool e.jmp.isNone))) (h.put b (.loop { l with state := if e.jmp.isNone = true then .ready else .done, pending := e.jmp })) := rfl
def aGet (A : AProg) (body : C) (Q : Ex → St → Prop) (b : Nat) (s : St) : Option Blk → Prop
  | some (.loop l) => l.state = .ready ∧ Wp A body { r := s.r, h := s.h.put b (.loop { l with state := .busy }) } Q
  | _ => False
def APost (A : AProg) (body : C) (Q : Ex → St → Prop) (b : Nat) : Ex → St → Prop
  | .normal, s => aGet A body Q b s (s.h.get b)
  | _, _ => False
theorem APost_normal {body : C} {Q : Ex → St → Prop} {b : Nat} {s : St} : APost A body Q b .normal s = aGet A body Q b s (s.h.get b) := rfl
theorem aGet_loop {body : C} {Q : Ex → St → Prop} {b : Nat} {s : St} {l : LoopB} : aGet A body Q b s (some (.loop l)) = (l.state = .ready ∧ Wp A body { r := s.r, h := s.h.put b (.loop { l with state := .busy }) } Q) := rfl
theorem WVal_yld {b : Nat} {args : List V} {L : LoopB} {r1 : Regs} (hl : H.get b = some (.loop L)) (hr : setParams L.params args L.regs = some r1) (hb : Wp A L.assign { r := r1, h := H } (APost A L.body (YPost g rest i env b) b)) : WVal g rest i env (ans A (.yld b) args H) := by
  obtain ⟨n1, e1, s1, h1, q1⟩ := hb
  cases e1 with
  | normal =>
    rw [APost_normal] at q1
    cases hg : s1.h.get b with
    | none => rw [hg] at q1; exact q1.elim
    | some x =>
      rw [hg] at q1
      cases x with
      | loop L1 =>
        obtain ⟨hs, n2, e2, s2, h2, q2⟩ := q1
        rw [YPost_eq] at q2
        cases hg2 : s2.h.get b with
        | none => rw [hg2] at q2; exact q2.elim
        | some y =>
          rw [hg2] at q2
          cases y with
          | loop L2 =>
            rw [yGet_loop] at q2
            have e : ans A (.yld b) args H = some (.d (.bool e2.jmp.isNone), s2.h.put b (.loop { L2 with state := if e2.jmp.isNone = true then .ready else .done, pending := e2.jmp })) := by
              refine ans_iff.2 ⟨max n1 n2 + 1, ?_⟩
              simp only [appN, round, hl, hr, Option.bind_some]
              rw [exec_le (appN_le (Nat.le_max_left n1 n2)) (Nat.le_max_left n1 n2) h1]
              simp only [hg]
              rw [if_pos hs, exec_le (appN_le (Nat.le_max_right n1 n2)) (Nat.le_max_right n1 n2) h2]
              simp only [Option.bind_some, hg2]
              cases e2 <;> rfl
            rw [e]; exact q2
          | _ => exact q2.elim
      | _ => exact q1.elim
  | exit id => exact q1.elim
  | ret => exact q1.elim
end
theorem setParams_nil {r : Regs} : setParams [] [] r = some r := rfl
theorem setParams_cons {t : Nat} {ts : List Nat} {v : V} {vs : List V} {r : Regs} : setParams (t :: ts) (v :: vs) r = setParams ts vs (r.set t v) := rfl
theorem Clo.rf {n n' b : Nat} {s : St} {rs : List RV} {Q : Ex → St → Prop} (hr : SelfR n s.r) (hb : b < n) (hn : n' ≤ n) (hQ : Clo n' Q) : Clo n (RetPost rs (RfPost b s Q)) := fun e s1 t ⟨f, hf, S⟩ hq => by
  have key : ∀ {vs : List V}, resultsV s1 rs = some vs → RfPost b s Q (oneOr vs) s1.h → ∃ vs', resultsV t rs = some vs' ∧ RfPost b s Q (oneOr vs') t.h := by
    intro vs h1 h2
    obtain ⟨vs', h3, h4⟩ := results_ren S h1
    refine ⟨vs', h3, ?_⟩
    rw [RfPost_eq] at h2 ⊢
    cases hg : s1.h.get b with
    | none => rw [hg] at h2; exact h2.elim
    | some x =>
      rw [hg] at h2
      cases x with
      | loop l =>
        obtain ⟨l', hl', r1, r2, r3, r4, r5, r6, r7, r8⟩ := S.h.loop hg
        rw [hf b hb] at hl'
        rw [hl', rfGet_loop, r5, r6]
        refine ⟨h2.1, hQ _ { r := s.r, h := s1.h.put b (.loop { l with state := .exhausted }) } _ ⟨f, fun c hc => hf c (by omega), fun j => hr j f hf, ?_⟩ h2.2⟩
        have := S.h.put (.loop (L := { l with state := .exhausted }) (L' := { l' with state := .exhausted }) r1 r2 r3 r4 rfl r6 r7 r8) b
        rw [hf b hb, r6] at this
        exact this
      | _ => exact h2.elim
  cases e with
  | normal => obtain ⟨vs, h1, h2⟩ := hq; exact key h1 h2
  | ret => obtain ⟨vs, h1, h2⟩ := hq; exact key h1 h2
  | exit id => exact hq
theorem Clo.yld {A : AProg} (hA : A.Loc) {n n' b : Nat} {g : Rg} {rest : List (SOp × Option (Nat × Bool))} {i : Nat} {env : Regs} (hg : g.A = A) (hops : g.ops.zipIdx.all (locOp g.pairs) = true) (hrest : rest = g.ops.drop (i + 1)) (henv : SelfR n env) (hr : SelfR n g.r) (hb : g.base + g.ops.length ≤ n) (hbn : b < n) (hn : n' ≤ n) (hQ : Clo n' g.Q) : Clo n (YPost g rest i env b) := fun e s t ⟨f, hf, S⟩ hq => by
  rw [YPost_eq] at hq ⊢
  cases hl : s.h.get b with
  | none => rw [hl] at hq; exact hq.elim
  | some x =>
    rw [hl] at hq
    cases x with
    | loop l =>
      obtain ⟨l', hl', r1, r2, r3, r4, r5, r6, r7, r8⟩ := S.h.loop hl
      rw [hf b hbn] at hl'
      rw [hl', yGet_loop]
      rw [yGet_loop] at hq
      have := S.h.put (.loop (L := { l with state := if e.jmp.isNone = true then .ready else .done, pending := e.jmp }) (L' := { l' with state := if e.jmp.isNone = true then .ready else .done, pending := e.jmp }) r1 r2 r3 r4 rfl rfl r7 r8) b
      rw [hf b hbn] at this
      exact WReg_clo hA hg hops hrest henv hr hb hn hQ hf (.d _) this hq
    | _ => exact hq.elim
theorem BlkR.loop {f : Nat → Nat} {r r' : Regs} {ps : List Nat} {a b : C} {s : LSt} {j : Option Jump} (hr : RegsR f r r') (la : a.loc = true) (lb : b.loc = true) : BlkR f (some (.loop ⟨r, ps, a, b, s, j⟩)) (some (.loop ⟨r', ps, a, b, s, j⟩)) := BR.loop hr rfl rfl rfl rfl rfl la lb
theorem ofC_cells {cs : List V} : V.cells (ofC cs (allD cs)) = cs := by
  cases hd : allD cs with
  | none => rfl
  | some ds => rw [allD_eqs hd]; rfl
theorem sub_ofC {cs : List V} {off : Nat} : V.sub (ofC cs (allD cs)) off none = cs[off]? := by simp only [V.sub, ofC_cells]
theorem sub_ofC_all {cs : List V} {n : Nat} (h : cs.length = n) : V.sub (ofC cs (allD cs)) 0 (some n) = some (ofC cs (allD cs)) := by
  simp only [V.sub, ofC_cells, h]
  rw [if_pos (by omega), List.drop_zero, List.take_of_length_le (by omega), ofCells_eq]
theorem like_ofC {cs l : List V} : V.like (ofC cs (allD cs)) l = V.ofCells l := by
  cases hd : allD cs with
  | none => rfl
  | some ds => rfl
theorem upd_cells {e v : V} {cs : List V} {off : Nat} (he : e.cells = cs) (hl : ∀ l, V.like e l = V.ofCells l) (hx : v.cells = [v]) (h1 : v.one = true) (h : off < cs.length) : V.upd e off 1 v = some (V.ofCells (cs.set off v)) := by
  unfold V.upd
  rw [he, hx, hl]
  rw [if_pos ⟨rfl, by decide, by omega, by simp [h1]⟩]
  congr 2
  unfold splice
  simp only [List.length_singleton]
  rw [List.set_eq_take_append_cons_drop, if_pos h]
  simp
theorem mb_cells {b : Nat} {l : List V} : (mb b l).cells = [mb b l] := by cases l <;> rfl
theorem mb_one {b : Nat} {l : List V} : (mb b l).one = true := by cases l <;> rfl
theorem upd_o_mb {cs l : List V} {off b : Nat} (h : off < cs.length) : V.upd (ofC cs (allD cs)) off 1 (mb b l) = some (V.ofCells (cs.set off (mb b l))) := upd_cells ofC_cells (fun _ => like_ofC) mb_cells mb_one h
theorem upd_o_sl {cs : List V} {off b i n : Nat} (h : off < cs.length) : V.upd (ofC cs (allD cs)) off 1 (.sl b i n) = some (V.ofCells (cs.set off (.sl b i n))) := upd_cells ofC_cells (fun _ => like_ofC) rfl rfl h
theorem upd_o_int {cs : List V} {off : Nat} {k : IntKind} {n : Int} (h : off < cs.length) : V.upd (ofC cs (allD cs)) off 1 (.d (.int k n)) = some (V.ofCells (cs.set off (.d (.int k n)))) := upd_cells ofC_cells (fun _ => like_ofC) rfl rfl h
theorem upd_o_bool {cs : List V} {off : Nat} {n : Bool} (h : off < cs.length) : V.upd (ofC cs (allD cs)) off 1 (.d (.bool n)) = some (V.ofCells (cs.set off (.d (.bool n)))) := upd_cells ofC_cells (fun _ => like_ofC) rfl rfl h
theorem upd_o_str {cs : List V} {off : Nat} {n : List UInt8} (h : off < cs.length) : V.upd (ofC cs (allD cs)) off 1 (.d (.str n)) = some (V.ofCells (cs.set off (.d (.str n)))) := upd_cells ofC_cells (fun _ => like_ofC) rfl rfl h
theorem upd_o_list {cs : List V} {off : Nat} {n : Bool} {l : List D} (h : off < cs.length) : V.upd (ofC cs (allD cs)) off 1 (.d (.list n l)) = some (V.ofCells (cs.set off (.d (.list n l)))) := upd_cells ofC_cells (fun _ => like_ofC) rfl rfl h
theorem upd_v_mb {cs l : List V} {off b : Nat} (h : off < cs.length) : V.upd (.agg cs) off 1 (mb b l) = some (V.ofCells (cs.set off (mb b l))) := upd_cells rfl (fun _ => rfl) mb_cells mb_one h
theorem upd_d_mb {cs : List D} {l : List V} {off b : Nat} (h : off < cs.length) : V.upd (.d (.agg cs)) off 1 (mb b l) = some (V.ofCells ((cs.map V.d).set off (mb b l))) := upd_cells rfl (fun _ => rfl) mb_cells mb_one (by simpa using h)
theorem upd_ml {b : Nat} {l : List V} {n : Bool} {m : List D} : V.upd (mb b l) 0 1 (.d (.list n m)) = some (.d (.list n m)) := by cases l <;> rfl
theorem upd_ms {b b' i n : Nat} {l : List V} : V.upd (mb b l) 0 1 (.sl b' i n) = some (.sl b' i n) := by cases l <;> rfl
theorem upd_mm {b b' : Nat} {l m : List V} : V.upd (mb b l) 0 1 (mb b' m) = some (mb b' m) := by cases l <;> cases m <;> rfl
theorem upd_lm {b : Nat} {l : List V} {n : Bool} {m : List D} : V.upd (.d (.list n m)) 0 1 (mb b l) = some (mb b l) := by cases l <;> rfl
theorem sub_mb {b : Nat} {l : List V} : V.sub (mb b l) 0 none = some (mb b l) := by simp only [V.sub, mb_cells]; rfl
theorem boxed_mb {b : Nat} {l : List V} : boxed (mb b l) = some (.els 1 [mb b l] 0) := by cases l <;> rfl
theorem boxed_ofC {cs : List V} : boxed (ofC cs (allD cs)) = some (.els cs.length [ofC cs (allD cs)] 0) := by
  cases hd : allD cs with
  | none => rfl
  | some ds => rw [allD_eqs hd]; simp [ofC, boxed, V.cells, D.cells]
theorem upd_c_all {e : V} {cs xs : List V} {n : Nat} (he : e.cells = cs) (hl : ∀ l, V.like e l = V.ofCells l) (hc : cs.length = n) (hx : xs.length = n) (h0 : 0 < n) (h1 : xs.all V.one = true) : V.upd e 0 n (ofC xs (allD xs)) = some (ofC xs (allD xs)) := by
  unfold V.upd
  rw [he, ofC_cells, hl]
  rw [if_pos ⟨hx, h0, by omega, h1⟩]
  unfold splice
  simp only [List.take_zero, List.nil_append]
  rw [List.drop_eq_nil_of_le (by omega), List.append_nil, ofCells_eq]
theorem upd_d_ofC {cs : List D} {xs : List V} {n : Nat} (hc : cs.length = n) (hx : xs.length = n) (h0 : 0 < n) (h1 : xs.all V.one = true) : V.upd (.d (.agg cs)) 0 n (ofC xs (allD xs)) = some (ofC xs (allD xs)) := upd_c_all rfl (fun _ => rfl) (by simpa [V.cells, D.cells] using hc) hx h0 h1
theorem upd_a_ofC {cs xs : List V} {n : Nat} (hc : cs.length = n) (hx : xs.length = n) (h0 : 0 < n) (h1 : xs.all V.one = true) : V.upd (.agg cs) 0 n (ofC xs (allD xs)) = some (ofC xs (allD xs)) := upd_c_all rfl (fun _ => rfl) hc hx h0 h1
theorem upd_o_ofC {cs xs : List V} {n : Nat} (hc : cs.length = n) (hx : xs.length = n) (h0 : 0 < n) (h1 : xs.all V.one = true) : V.upd (ofC cs (allD cs)) 0 n (ofC xs (allD xs)) = some (ofC xs (allD xs)) := upd_c_all ofC_cells (fun _ => like_ofC) hc hx h0 h1
theorem one_mb {b : Nat} {l : List V} : V.one (mb b l) = true := mb_one
theorem one_sl' {b i n : Nat} : V.one (.sl b i n) = true := rfl
theorem one_d_int {k : IntKind} {n : Int} : V.one (.d (.int k n)) = true := rfl
theorem one_d_bool {n : Bool} : V.one (.d (.bool n)) = true := rfl
theorem one_d_str {n : List UInt8} : V.one (.d (.str n)) = true := rfl
theorem one_d_list {n : Bool} {l : List D} : V.one (.d (.list n l)) = true := rfl
theorem VRL.ofC {f : Nat → Nat} {l l' : List V} (h : VRL f l l') : VR f (AI.ofC l (AI.allD l)) (AI.ofC l' (AI.allD l')) := by
  rw [← ofCells_eq, ← ofCells_eq]; exact h.ofCells
theorem isNil_ptr {b i o : Nat} : isNil (.ptr b i o) = some false := rfl
theorem isNil_rp {x : D} {o : Nat} : isNil (.rp x o) = some false := rfl
theorem isNil_sl {b i o : Nat} : isNil (.sl b i o) = some false := rfl
theorem isNil_clo {f : FuncId} {a b : List V} : isNil (.clo f a b) = some false := rfl
theorem isNil_map {b : Nat} : isNil (.map b) = some false := rfl
theorem isNil_list {n : Bool} {l : List D} : isNil (.d (.list n l)) = some n := rfl
theorem isNil_fn {f : FuncId} : isNil (.d (.fn f)) = some false := rfl
section
variable {K α : Type} [DecidableEq K] {ks : List CK} {e : K → D} {ev : α → D} {h : Heap} {k : K} {l : List (K × α)} {z a : α} {b c : Nat}
def getE (k : K) (l : List (K × α)) (z : α) : α := match findE k l 0 with | some (a, _) => a | none => z
def hasE (k : K) (l : List (K × α)) : Bool := (findE k l 0).isSome
def insE (k : K) (z : α) (l : List (K × α)) : List (K × α) := match findE k l 0 with | some _ => l | none => l ++ [(k, z)]
def idxE (k : K) (l : List (K × α)) : Nat := match findE k l 0 with | some (_, i) => i | none => l.length
theorem lookM_get (hk : Keyed ks e) : lookM ks (ev z) (e k) false h (some (.map (ents e (fun a => V.d (ev a)) l 0) c)) = some (.d (ev (getE k l z)), h) := by
  rw [lookM_ents hk]
  unfold getE
  cases findE k l 0 <;> rfl
theorem lookM_has (hk : Keyed ks e) : lookM ks (ev z) (e k) true h (some (.map (ents e (fun a => V.d (ev a)) l 0) c)) = some (.d (.tuple [ev (getE k l z), .bool (hasE k l)]), h) := by
  rw [lookM_ents hk]
  unfold getE hasE
  cases findE k l 0 <;> rfl
theorem put_self (h : Heap) {b : Nat} {x : Blk} (hb : h.get b = some x) : h.put b x = h := by
  have : (h.put b x).get = h.get := by
    funext c
    rw [Heap.put_at]
    split
    · rename_i hc; subst hc; exact hb.symm
    · rfl
  cases h; simp only [Heap.put, Heap.set] at this ⊢; rw [this]
theorem entryM_ins (hk : Keyed ks e) (hb : h.get b = some (.map (ents e (fun a => V.d (ev a)) l 0) l.length)) : entryM ks (ev z) (e k) b h (some (.map (ents e (fun a => V.d (ev a)) l 0) l.length)) = some (.d (.tuple [ev (getE k l z), .int .i64 (idxE k l)]), h.put b (.map (ents e (fun a => V.d (ev a)) (insE k z l) 0) (insE k z l).length)) := by
  unfold getE idxE insE
  cases hf : findE k l 0 with
  | some x =>
    obtain ⟨a, i⟩ := x
    rw [entryM_some hk hf]
    simp only
    rw [put_self h hb]
    rfl
  | none =>
    rw [entryM_none (z := z) hk rfl hf rfl]
    simp only [List.length_append, List.length_cons, List.length_nil, Nat.zero_add]
    rfl
theorem estoreM_set : estoreM (idxE k l) (.d (ev a)) b h (some (.map (ents e (fun a => V.d (ev a)) (insE k z l) 0) (insE k z l).length)) = some (.undef, h.put b (.map (ents e (fun a => V.d (ev a)) (setE k a l) 0) (setE k a l).length)) := by
  unfold idxE insE
  cases hf : findE k l 0 with
  | some x =>
    obtain ⟨a', i⟩ := x
    simp only
    rw [estoreM_ents (f := fun a => V.d (ev a)) hf, setE_length_some l 0 (by rw [hf]; rfl)]
  | none =>
    simp only
    have := findE_new (k := k) (a := z) hf
    simp only [Nat.zero_add] at this
    rw [estoreM_ents (f := fun a => V.d (ev a)) this, setE_new hf, setE_none k a l 0 hf]
    simp
theorem mupdM_set (hk : Keyed ks e) : mupdM ks (e k) (.d (ev a)) b h (some (.map (ents e (fun a => V.d (ev a)) l 0) l.length)) = some (.undef, h.put b (.map (ents e (fun a => V.d (ev a)) (setE k a l) 0) (setE k a l).length)) := mupdM_ents (f := fun a => V.d (ev a)) hk rfl
theorem lenV_mapE (hb : h.get b = some (.map (ents e (fun a => V.d (ev a)) l 0) c)) : lenV h .map (.map b) = some l.length := by
  simp only [lenV, hb, ents_length]
theorem MRL.refl_d {f : Nat → Nat} : ∀ (l : List (K × α)) (t : Nat), MRL f (ents e (fun a => V.d (ev a)) l t) (ents e (fun a => V.d (ev a)) l t)
  | [], _ => .nil
  | _ :: l, t => .cons ⟨rfl, .d _, rfl⟩ (MRL.refl_d l (t + 1))
theorem BlkR.map_d {f : Nat → Nat} : BlkR f (some (.map (ents e (fun a => V.d (ev a)) l 0) c)) (some (.map (ents e (fun a => V.d (ev a)) l 0) c)) := BR.map (MRL.refl_d l 0)
end
class Inj {α : Type} (e : α → D) : Prop where
  inj : ∀ a b, e a = e b → a = b
instance {k : IntKind} : Inj (D.int k) := ⟨fun a b h => by cases h; rfl⟩
instance : Inj D.bool := ⟨fun a b h => by cases h; rfl⟩
instance : Inj D.str := ⟨fun a b h => by cases h; rfl⟩
theorem map_iff {α : Type} {e : α → D} [Inj e] {l m : List α} : l.map e = m.map e ↔ l = m := ⟨fun h => (List.map_inj_right (fun a b hab => Inj.inj a b hab)).1 h, fun h => by rw [h]⟩
instance {α : Type} {e : α → D} [Inj e] : Inj (eSl e) := ⟨fun a b h => by
  obtain ⟨n, l⟩ := a
  obtain ⟨m, k⟩ := b
  simp only [eSl, D.list.injEq, map_iff] at h
  obtain ⟨rfl, rfl⟩ := h; rfl⟩
section
variable {α β γ δ ε : Type} {e : α → D} {f : β → D} {g : γ → D} {k : δ → D} {m : ε → D}
theorem dec_one [Inj e] {a : α} : dec e (some (e a)) = some a := dec_eq Inj.inj a
end
attribute [go_sem] nat_pos Int.toNat_natCast estoreM_set regs0 List.length_map resMB_map resB_mapF eT2_eq eT3_eq eT4_eq eT5_eq decide_true decide_false Heap.at_get Heap.at_next Regs.none_at Heap.set_at Heap.set_next mb_nil mbB_nil lenV_mb isSl_mb isNil_mb sub_ofC sub_ofC_all like_ofC upd_o_mb upd_o_sl upd_o_int upd_o_bool upd_o_str upd_o_list upd_v_mb upd_d_mb upd_ml upd_ms upd_mm upd_lm sub_mb boxed_mb boxed_ofC upd_d_ofC upd_a_ofC upd_o_ofC one_mb one_sl' one_d_int one_d_bool one_d_str one_d_list isNil_ptr isNil_rp isNil_sl isNil_clo isNil_map isNil_list isNil_fn List.isEmpty_nil List.isEmpty_cons Bool.and_false Bool.false_and res_mb mbB_frz isEmpty_mapd resLo_go kindOf_mb RfPost_eq rfGet_loop exo_none exo_ret exo_exit jmp_normal jmp_ret jmp_exit YPost_eq yGet_loop APost_normal aGet_loop setParams_nil setParams_cons Option.isNone_none Option.isNone_some ne_eq not_false_eq_true InlPost_eq List.append_nil List.nil_append List.cons_append cond_same cond_same' cond_not1 cond_not2 bif_d_int bif_d_str
attribute [go_sem] Nat.reduceAdd Nat.reduceEqDiff Nat.reduceBEq Nat.reduceBNe Nat.reduceLeDiff Nat.reduceLT reduceCtorEq Int.reduceLT Int.reduceLE Int.reduceBEq Int.reduceAdd Int.reduceSub Int.reduceToNat
attribute [go_sem ↓] reduceIte
end Go.AI
namespace Go.AI
def dcr (s : List UInt8) (pos : Nat) : Nat × Nat := Utf8.decode ⟨s.toArray⟩ pos
def itOf : V → Option Blk | .d (.str s) => some (.it s 0) | _ => none
theorem itOf_str {s : List UInt8} : itOf (.d (.str s)) = some (.it s 0) := rfl
def nextIt (b : Nat) (h : Heap) (s : List UInt8) (pos : Nat) : Option (V × Heap) :=
  if pos < s.length then some (.d (.tuple [.bool true, .int .i64 pos, .int .i32 (dcr s pos).1]), h.put b (.it s (pos + (dcr s pos).2))) else some (.d (.tuple [.bool false]), h)
def nextB (b : Nat) (h : Heap) : Option Blk → Option (V × Heap) | some (.it s pos) => nextIt b h s pos | _ => none
theorem nextB_some {b : Nat} {h : Heap} {s : List UInt8} {pos : Nat} : nextB b h (some (.it s pos)) = nextIt b h s pos := rfl
def nextO (h : Heap) : V → Option (V × Heap) | .it b => nextB b h (h.get b) | _ => none
theorem nextO_it {h : Heap} {b : Nat} : nextO h (.it b) = nextB b h (h.get b) := rfl
section
variable {app : App} {sh : FuncId → Bool} {fr : Nat} {env : Regs} {r : Regs} {h : Heap}
theorem e_rangeS {x : Opd} : evalOp app sh fr env r h (.rangeS x) = newB fr h (.it fr) (itOf (opd env r x)) := by
  simp only [evalOp]
  cases opd env r x with
  | d y => cases y <;> rfl
  | _ => rfl
theorem e_nextS {x : Opd} : evalOp app sh fr env r h (.nextS x) = nextO h (opd env r x) := by
  simp only [evalOp]
  cases hx : opd env r x with
  | it b =>
    simp only [nextO]
    cases hb : h.get b with
    | none => rfl
    | some y => cases y with
      | it s pos => simp only [nextB, nextIt, dcr]
      | _ => rfl
  | _ => rfl
end
theorem VR.it'' {f : Nat → Nat} {b c : Nat} (h : f b = c) : VR f (.it b) (.it c) := by subst h; exact .it ..
theorem Self.it {n b : Nat} (h : b < n) : Self n (.it b) := fun _ hf => .it'' (hf b h)
theorem BlkR.it {f : Nat → Nat} {s : List UInt8} {p : Nat} : BlkR f (some (.it s p)) (some (.it s p)) := BR.it s p
theorem boxed_it {b : Nat} : boxed (.it b) = some (.els 1 [.it b] 0) := rfl
theorem sub_it {b : Nat} : V.sub (.it b) 0 none = some (.it b) := rfl
theorem convV_int {k k' : IntKind} {n : Int} : convV (.int k) (.d (.int k' n)) = some (.d (.int k (k.wrap n))) := rfl
theorem convV_same {s : List UInt8} : convV .same (.d (.str s)) = some (.d (.str s)) := rfl
def runeB (n : Int) : List UInt8 := (Utf8.encode n).data.toList
theorem convV_rune {k : IntKind} {n : Int} : convV .rune (.d (.int k n)) = some (.d (.str (runeB n))) := rfl
theorem strOp_lss {a b : List UInt8} : strOp .lss a b = some (.bool (bytesLess a b)) := rfl
theorem strOp_leq {a b : List UInt8} : strOp .leq a b = some (.bool (bytesLess a b || a == b)) := rfl
theorem strOp_gtr {a b : List UInt8} : strOp .gtr a b = some (.bool !(bytesLess a b || a == b)) := rfl
theorem strOp_geq {a b : List UInt8} : strOp .geq a b = some (.bool !(bytesLess a b)) := rfl
section
variable {A : AProg} {g : Rg} {rest : List (SOp × Option (Nat × Bool))} {i fr sz bytes : Nat} {env : Regs} {H : Heap}
end
theorem setAll_2 {sz : Nat} {z v0 v1 : V} (h0 : v0.cells.length = sz) (h1 : v1.cells.length = sz) : setAll sz (List.replicate 2 z) [(0, v0), (1, v1)] = some [v0, v1] := by
  simp [setAll, List.replicate, h0, h1]
theorem setAll_3 {sz : Nat} {z v0 v1 v2 : V} (h0 : v0.cells.length = sz) (h1 : v1.cells.length = sz) (h2 : v2.cells.length = sz) : setAll sz (List.replicate 3 z) [(0, v0), (1, v1), (2, v2)] = some [v0, v1, v2] := by
  simp [setAll, List.replicate, h0, h1, h2]
theorem setAll_4 {sz : Nat} {z v0 v1 v2 v3 : V} (h0 : v0.cells.length = sz) (h1 : v1.cells.length = sz) (h2 : v2.cells.length = sz) (h3 : v3.cells.length = sz) : setAll sz (List.replicate 4 z) [(0, v0), (1, v1), (2, v2), (3, v3)] = some [v0, v1, v2, v3] := by
  simp [setAll, List.replicate, h0, h1, h2, h3]
theorem setAll_5 {sz : Nat} {z v0 v1 v2 v3 v4 : V} (h0 : v0.cells.length = sz) (h1 : v1.cells.length = sz) (h2 : v2.cells.length = sz) (h3 : v3.cells.length = sz) (h4 : v4.cells.length = sz) : setAll sz (List.replicate 5 z) [(0, v0), (1, v1), (2, v2), (3, v3), (4, v4)] = some [v0, v1, v2, v3, v4] := by
  simp [setAll, List.replicate, h0, h1, h2, h3, h4]
theorem setAll_6 {sz : Nat} {z v0 v1 v2 v3 v4 v5 : V} (h0 : v0.cells.length = sz) (h1 : v1.cells.length = sz) (h2 : v2.cells.length = sz) (h3 : v3.cells.length = sz) (h4 : v4.cells.length = sz) (h5 : v5.cells.length = sz) : setAll sz (List.replicate 6 z) [(0, v0), (1, v1), (2, v2), (3, v3), (4, v4), (5, v5)] = some [v0, v1, v2, v3, v4, v5] := by
  simp [setAll, List.replicate, h0, h1, h2, h3, h4, h5]
theorem setAll_7 {sz : Nat} {z v0 v1 v2 v3 v4 v5 v6 : V} (h0 : v0.cells.length = sz) (h1 : v1.cells.length = sz) (h2 : v2.cells.length = sz) (h3 : v3.cells.length = sz) (h4 : v4.cells.length = sz) (h5 : v5.cells.length = sz) (h6 : v6.cells.length = sz) : setAll sz (List.replicate 7 z) [(0, v0), (1, v1), (2, v2), (3, v3), (4, v4), (5, v5), (6, v6)] = some [v0, v1, v2, v3, v4, v5, v6] := by
  simp [setAll, List.replicate, h0, h1, h2, h3, h4, h5, h6]
theorem setAll_8 {sz : Nat} {z v0 v1 v2 v3 v4 v5 v6 v7 : V} (h0 : v0.cells.length = sz) (h1 : v1.cells.length = sz) (h2 : v2.cells.length = sz) (h3 : v3.cells.length = sz) (h4 : v4.cells.length = sz) (h5 : v5.cells.length = sz) (h6 : v6.cells.length = sz) (h7 : v7.cells.length = sz) : setAll sz (List.replicate 8 z) [(0, v0), (1, v1), (2, v2), (3, v3), (4, v4), (5, v5), (6, v6), (7, v7)] = some [v0, v1, v2, v3, v4, v5, v6, v7] := by
  simp [setAll, List.replicate, h0, h1, h2, h3, h4, h5, h6, h7]
theorem setAll_9 {sz : Nat} {z v0 v1 v2 v3 v4 v5 v6 v7 v8 : V} (h0 : v0.cells.length = sz) (h1 : v1.cells.length = sz) (h2 : v2.cells.length = sz) (h3 : v3.cells.length = sz) (h4 : v4.cells.length = sz) (h5 : v5.cells.length = sz) (h6 : v6.cells.length = sz) (h7 : v7.cells.length = sz) (h8 : v8.cells.length = sz) : setAll sz (List.replicate 9 z) [(0, v0), (1, v1), (2, v2), (3, v3), (4, v4), (5, v5), (6, v6), (7, v7), (8, v8)] = some [v0, v1, v2, v3, v4, v5, v6, v7, v8] := by
  simp [setAll, List.replicate, h0, h1, h2, h3, h4, h5, h6, h7, h8]
theorem setAll_10 {sz : Nat} {z v0 v1 v2 v3 v4 v5 v6 v7 v8 v9 : V} (h0 : v0.cells.length = sz) (h1 : v1.cells.length = sz) (h2 : v2.cells.length = sz) (h3 : v3.cells.length = sz) (h4 : v4.cells.length = sz) (h5 : v5.cells.length = sz) (h6 : v6.cells.length = sz) (h7 : v7.cells.length = sz) (h8 : v8.cells.length = sz) (h9 : v9.cells.length = sz) : setAll sz (List.replicate 10 z) [(0, v0), (1, v1), (2, v2), (3, v3), (4, v4), (5, v5), (6, v6), (7, v7), (8, v8), (9, v9)] = some [v0, v1, v2, v3, v4, v5, v6, v7, v8, v9] := by
  simp [setAll, List.replicate, h0, h1, h2, h3, h4, h5, h6, h7, h8, h9]
theorem setAll_11 {sz : Nat} {z v0 v1 v2 v3 v4 v5 v6 v7 v8 v9 v10 : V} (h0 : v0.cells.length = sz) (h1 : v1.cells.length = sz) (h2 : v2.cells.length = sz) (h3 : v3.cells.length = sz) (h4 : v4.cells.length = sz) (h5 : v5.cells.length = sz) (h6 : v6.cells.length = sz) (h7 : v7.cells.length = sz) (h8 : v8.cells.length = sz) (h9 : v9.cells.length = sz) (h10 : v10.cells.length = sz) : setAll sz (List.replicate 11 z) [(0, v0), (1, v1), (2, v2), (3, v3), (4, v4), (5, v5), (6, v6), (7, v7), (8, v8), (9, v9), (10, v10)] = some [v0, v1, v2, v3, v4, v5, v6, v7, v8, v9, v10] := by
  simp [setAll, List.replicate, h0, h1, h2, h3, h4, h5, h6, h7, h8, h9, h10]
theorem setAll_12 {sz : Nat} {z v0 v1 v2 v3 v4 v5 v6 v7 v8 v9 v10 v11 : V} (h0 : v0.cells.length = sz) (h1 : v1.cells.length = sz) (h2 : v2.cells.length = sz) (h3 : v3.cells.length = sz) (h4 : v4.cells.length = sz) (h5 : v5.cells.length = sz) (h6 : v6.cells.length = sz) (h7 : v7.cells.length = sz) (h8 : v8.cells.length = sz) (h9 : v9.cells.length = sz) (h10 : v10.cells.length = sz) (h11 : v11.cells.length = sz) : setAll sz (List.replicate 12 z) [(0, v0), (1, v1), (2, v2), (3, v3), (4, v4), (5, v5), (6, v6), (7, v7), (8, v8), (9, v9), (10, v10), (11, v11)] = some [v0, v1, v2, v3, v4, v5, v6, v7, v8, v9, v10, v11] := by
  simp [setAll, List.replicate, h0, h1, h2, h3, h4, h5, h6, h7, h8, h9, h10, h11]
theorem setAll_13 {sz : Nat} {z v0 v1 v2 v3 v4 v5 v6 v7 v8 v9 v10 v11 v12 : V} (h0 : v0.cells.length = sz) (h1 : v1.cells.length = sz) (h2 : v2.cells.length = sz) (h3 : v3.cells.length = sz) (h4 : v4.cells.length = sz) (h5 : v5.cells.length = sz) (h6 : v6.cells.length = sz) (h7 : v7.cells.length = sz) (h8 : v8.cells.length = sz) (h9 : v9.cells.length = sz) (h10 : v10.cells.length = sz) (h11 : v11.cells.length = sz) (h12 : v12.cells.length = sz) : setAll sz (List.replicate 13 z) [(0, v0), (1, v1), (2, v2), (3, v3), (4, v4), (5, v5), (6, v6), (7, v7), (8, v8), (9, v9), (10, v10), (11, v11), (12, v12)] = some [v0, v1, v2, v3, v4, v5, v6, v7, v8, v9, v10, v11, v12] := by
  simp [setAll, List.replicate, h0, h1, h2, h3, h4, h5, h6, h7, h8, h9, h10, h11, h12]
theorem setAll_14 {sz : Nat} {z v0 v1 v2 v3 v4 v5 v6 v7 v8 v9 v10 v11 v12 v13 : V} (h0 : v0.cells.length = sz) (h1 : v1.cells.length = sz) (h2 : v2.cells.length = sz) (h3 : v3.cells.length = sz) (h4 : v4.cells.length = sz) (h5 : v5.cells.length = sz) (h6 : v6.cells.length = sz) (h7 : v7.cells.length = sz) (h8 : v8.cells.length = sz) (h9 : v9.cells.length = sz) (h10 : v10.cells.length = sz) (h11 : v11.cells.length = sz) (h12 : v12.cells.length = sz) (h13 : v13.cells.length = sz) : setAll sz (List.replicate 14 z) [(0, v0), (1, v1), (2, v2), (3, v3), (4, v4), (5, v5), (6, v6), (7, v7), (8, v8), (9, v9), (10, v10), (11, v11), (12, v12), (13, v13)] = some [v0, v1, v2, v3, v4, v5, v6, v7, v8, v9, v10, v11, v12, v13] := by
  simp [setAll, List.replicate, h0, h1, h2, h3, h4, h5, h6, h7, h8, h9, h10, h11, h12, h13]
theorem setAll_15 {sz : Nat} {z v0 v1 v2 v3 v4 v5 v6 v7 v8 v9 v10 v11 v12 v13 v14 : V} (h0 : v0.cells.length = sz) (h1 : v1.cells.length = sz) (h2 : v2.cells.length = sz) (h3 : v3.cells.length = sz) (h4 : v4.cells.length = sz) (h5 : v5.cells.length = sz) (h6 : v6.cells.length = sz) (h7 : v7.cells.length = sz) (h8 : v8.cells.length = sz) (h9 : v9.cells.length = sz) (h10 : v10.cells.length = sz) (h11 : v11.cells.length = sz) (h12 : v12.cells.length = sz) (h13 : v13.cells.length = sz) (h14 : v14.cells.length = sz) : setAll sz (List.replicate 15 z) [(0, v0), (1, v1), (2, v2), (3, v3), (4, v4), (5, v5), (6, v6), (7, v7), (8, v8), (9, v9), (10, v10), (11, v11), (12, v12), (13, v13), (14, v14)] = some [v0, v1, v2, v3, v4, v5, v6, v7, v8, v9, v10, v11, v12, v13, v14] := by
  simp [setAll, List.replicate, h0, h1, h2, h3, h4, h5, h6, h7, h8, h9, h10, h11, h12, h13, h14]
theorem setAll_16 {sz : Nat} {z v0 v1 v2 v3 v4 v5 v6 v7 v8 v9 v10 v11 v12 v13 v14 v15 : V} (h0 : v0.cells.length = sz) (h1 : v1.cells.length = sz) (h2 : v2.cells.length = sz) (h3 : v3.cells.length = sz) (h4 : v4.cells.length = sz) (h5 : v5.cells.length = sz) (h6 : v6.cells.length = sz) (h7 : v7.cells.length = sz) (h8 : v8.cells.length = sz) (h9 : v9.cells.length = sz) (h10 : v10.cells.length = sz) (h11 : v11.cells.length = sz) (h12 : v12.cells.length = sz) (h13 : v13.cells.length = sz) (h14 : v14.cells.length = sz) (h15 : v15.cells.length = sz) : setAll sz (List.replicate 16 z) [(0, v0), (1, v1), (2, v2), (3, v3), (4, v4), (5, v5), (6, v6), (7, v7), (8, v8), (9, v9), (10, v10), (11, v11), (12, v12), (13, v13), (14, v14), (15, v15)] = some [v0, v1, v2, v3, v4, v5, v6, v7, v8, v9, v10, v11, v12, v13, v14, v15] := by
  simp [setAll, List.replicate, h0, h1, h2, h3, h4, h5, h6, h7, h8, h9, h10, h11, h12, h13, h14, h15]
theorem setAll_17 {sz : Nat} {z v0 v1 v2 v3 v4 v5 v6 v7 v8 v9 v10 v11 v12 v13 v14 v15 v16 : V} (h0 : v0.cells.length = sz) (h1 : v1.cells.length = sz) (h2 : v2.cells.length = sz) (h3 : v3.cells.length = sz) (h4 : v4.cells.length = sz) (h5 : v5.cells.length = sz) (h6 : v6.cells.length = sz) (h7 : v7.cells.length = sz) (h8 : v8.cells.length = sz) (h9 : v9.cells.length = sz) (h10 : v10.cells.length = sz) (h11 : v11.cells.length = sz) (h12 : v12.cells.length = sz) (h13 : v13.cells.length = sz) (h14 : v14.cells.length = sz) (h15 : v15.cells.length = sz) (h16 : v16.cells.length = sz) : setAll sz (List.replicate 17 z) [(0, v0), (1, v1), (2, v2), (3, v3), (4, v4), (5, v5), (6, v6), (7, v7), (8, v8), (9, v9), (10, v10), (11, v11), (12, v12), (13, v13), (14, v14), (15, v15), (16, v16)] = some [v0, v1, v2, v3, v4, v5, v6, v7, v8, v9, v10, v11, v12, v13, v14, v15, v16] := by
  simp [setAll, List.replicate, h0, h1, h2, h3, h4, h5, h6, h7, h8, h9, h10, h11, h12, h13, h14, h15, h16]
theorem setAll_18 {sz : Nat} {z v0 v1 v2 v3 v4 v5 v6 v7 v8 v9 v10 v11 v12 v13 v14 v15 v16 v17 : V} (h0 : v0.cells.length = sz) (h1 : v1.cells.length = sz) (h2 : v2.cells.length = sz) (h3 : v3.cells.length = sz) (h4 : v4.cells.length = sz) (h5 : v5.cells.length = sz) (h6 : v6.cells.length = sz) (h7 : v7.cells.length = sz) (h8 : v8.cells.length = sz) (h9 : v9.cells.length = sz) (h10 : v10.cells.length = sz) (h11 : v11.cells.length = sz) (h12 : v12.cells.length = sz) (h13 : v13.cells.length = sz) (h14 : v14.cells.length = sz) (h15 : v15.cells.length = sz) (h16 : v16.cells.length = sz) (h17 : v17.cells.length = sz) : setAll sz (List.replicate 18 z) [(0, v0), (1, v1), (2, v2), (3, v3), (4, v4), (5, v5), (6, v6), (7, v7), (8, v8), (9, v9), (10, v10), (11, v11), (12, v12), (13, v13), (14, v14), (15, v15), (16, v16), (17, v17)] = some [v0, v1, v2, v3, v4, v5, v6, v7, v8, v9, v10, v11, v12, v13, v14, v15, v16, v17] := by
  simp [setAll, List.replicate, h0, h1, h2, h3, h4, h5, h6, h7, h8, h9, h10, h11, h12, h13, h14, h15, h16, h17]
theorem setAll_19 {sz : Nat} {z v0 v1 v2 v3 v4 v5 v6 v7 v8 v9 v10 v11 v12 v13 v14 v15 v16 v17 v18 : V} (h0 : v0.cells.length = sz) (h1 : v1.cells.length = sz) (h2 : v2.cells.length = sz) (h3 : v3.cells.length = sz) (h4 : v4.cells.length = sz) (h5 : v5.cells.length = sz) (h6 : v6.cells.length = sz) (h7 : v7.cells.length = sz) (h8 : v8.cells.length = sz) (h9 : v9.cells.length = sz) (h10 : v10.cells.length = sz) (h11 : v11.cells.length = sz) (h12 : v12.cells.length = sz) (h13 : v13.cells.length = sz) (h14 : v14.cells.length = sz) (h15 : v15.cells.length = sz) (h16 : v16.cells.length = sz) (h17 : v17.cells.length = sz) (h18 : v18.cells.length = sz) : setAll sz (List.replicate 19 z) [(0, v0), (1, v1), (2, v2), (3, v3), (4, v4), (5, v5), (6, v6), (7, v7), (8, v8), (9, v9), (10, v10), (11, v11), (12, v12), (13, v13), (14, v14), (15, v15), (16, v16), (17, v17), (18, v18)] = some [v0, v1, v2, v3, v4, v5, v6, v7, v8, v9, v10, v11, v12, v13, v14, v15, v16, v17, v18] := by
  simp [setAll, List.replicate, h0, h1, h2, h3, h4, h5, h6, h7, h8, h9, h10, h11, h12, h13, h14, h15, h16, h17, h18]
theorem setAll_20 {sz : Nat} {z v0 v1 v2 v3 v4 v5 v6 v7 v8 v9 v10 v11 v12 v13 v14 v15 v16 v17 v18 v19 : V} (h0 : v0.cells.length = sz) (h1 : v1.cells.length = sz) (h2 : v2.cells.length = sz) (h3 : v3.cells.length = sz) (h4 : v4.cells.length = sz) (h5 : v5.cells.length = sz) (h6 : v6.cells.length = sz) (h7 : v7.cells.length = sz) (h8 : v8.cells.length = sz) (h9 : v9.cells.length = sz) (h10 : v10.cells.length = sz) (h11 : v11.cells.length = sz) (h12 : v12.cells.length = sz) (h13 : v13.cells.length = sz) (h14 : v14.cells.length = sz) (h15 : v15.cells.length = sz) (h16 : v16.cells.length = sz) (h17 : v17.cells.length = sz) (h18 : v18.cells.length = sz) (h19 : v19.cells.length = sz) : setAll sz (List.replicate 20 z) [(0, v0), (1, v1), (2, v2), (3, v3), (4, v4), (5, v5), (6, v6), (7, v7), (8, v8), (9, v9), (10, v10), (11, v11), (12, v12), (13, v13), (14, v14), (15, v15), (16, v16), (17, v17), (18, v18), (19, v19)] = some [v0, v1, v2, v3, v4, v5, v6, v7, v8, v9, v10, v11, v12, v13, v14, v15, v16, v17, v18, v19] := by
  simp [setAll, List.replicate, h0, h1, h2, h3, h4, h5, h6, h7, h8, h9, h10, h11, h12, h13, h14, h15, h16, h17, h18, h19]
attribute [go_sem] setAll_2 setAll_3 setAll_4 setAll_5 setAll_6 setAll_7 setAll_8 setAll_9 setAll_10 setAll_11 setAll_12 setAll_13 setAll_14 setAll_15 setAll_16 setAll_17 setAll_18 setAll_19 setAll_20
theorem indexV_str {i : Nat} {s : List UInt8} : indexV i (.d (.str s)) = (s[i]?).map fun c => .d (.int .u8 c.toNat) := rfl
attribute [go_sem] indexV_str
theorem upd_nf {f : FuncId} : V.upd (.d .nilf) 0 1 (.d (.fn f)) = some (.d (.fn f)) := rfl
theorem upd_nc {f : FuncId} {a b : List V} : V.upd (.d .nilf) 0 1 (.clo f a b) = some (.clo f a b) := rfl
theorem upd_ff {f g : FuncId} : V.upd (.d (.fn g)) 0 1 (.d (.fn f)) = some (.d (.fn f)) := rfl
theorem nilf_len : D.nilf.cells.length = 1 := rfl
theorem nilf_vlen : (V.d .nilf).cells.length = 1 := rfl
theorem fn_len {f : FuncId} : (V.d (.fn f)).cells.length = 1 := rfl
theorem clo_len {f : FuncId} {a b : List V} : (V.clo f a b).cells.length = 1 := rfl
attribute [go_sem] upd_nf upd_nc upd_ff nilf_len nilf_vlen fn_len clo_len
theorem ite_some {α : Type} {c : Prop} [Decidable c] {x : Option α} {r : α} (h : (if c then x else none) = some r) : c ∧ x = some r := by
  split at h
  · rename_i hc; exact ⟨hc, h⟩
  · cases h
theorem eq_tt {c : Bool} : (true == c) = c := by cases c <;> rfl
theorem eq_tt' {c : Bool} : (c == true) = c := by cases c <;> rfl
attribute [go_sem] eq_tt eq_tt'
theorem bif_self {c x : Bool} : (bif c then x else x) = x := by cases c <;> rfl
attribute [go_sem] bif_self
section
variable {α β γ δ ε : Type} {e : α → D} {f : β → D} {g : γ → D} {k : δ → D} {m : ε → D}
instance injT2 [Inj e] [Inj f] : Inj (eT2 e f) := ⟨fun x y h => by
  obtain ⟨x0, x1⟩ := x; obtain ⟨y0, y1⟩ := y
  simp only [eT2, D.tuple.injEq, List.cons.injEq, and_true] at h
  rw [Inj.inj _ _ h.1, Inj.inj _ _ h.2]⟩
instance injT3 [Inj e] [Inj f] [Inj g] : Inj (eT3 e f g) := ⟨fun x y h => by
  obtain ⟨x0, x1, x2⟩ := x; obtain ⟨y0, y1, y2⟩ := y
  simp only [eT3, D.tuple.injEq, List.cons.injEq, and_true] at h
  rw [Inj.inj _ _ h.1, Inj.inj _ _ h.2.1, Inj.inj _ _ h.2.2]⟩
instance injT4 [Inj e] [Inj f] [Inj g] [Inj k] : Inj (eT4 e f g k) := ⟨fun x y h => by
  obtain ⟨x0, x1, x2, x3⟩ := x; obtain ⟨y0, y1, y2, y3⟩ := y
  simp only [eT4, D.tuple.injEq, List.cons.injEq, and_true] at h
  rw [Inj.inj _ _ h.1, Inj.inj _ _ h.2.1, Inj.inj _ _ h.2.2.1, Inj.inj _ _ h.2.2.2]⟩
instance injT5 [Inj e] [Inj f] [Inj g] [Inj k] [Inj m] : Inj (eT5 e f g k m) := ⟨fun x y h => by
  obtain ⟨x0, x1, x2, x3, x4⟩ := x; obtain ⟨y0, y1, y2, y3, y4⟩ := y
  simp only [eT5, D.tuple.injEq, List.cons.injEq, and_true] at h
  rw [Inj.inj _ _ h.1, Inj.inj _ _ h.2.1, Inj.inj _ _ h.2.2.1, Inj.inj _ _ h.2.2.2.1, Inj.inj _ _ h.2.2.2.2]⟩
end
def andI (k : IntKind) (a b : Int) : Int := k.wrap ((BitVec.ofInt k.bits a &&& BitVec.ofInt k.bits b).toNat : Int)
def orI (k : IntKind) (a b : Int) : Int := k.wrap ((BitVec.ofInt k.bits a ||| BitVec.ofInt k.bits b).toNat : Int)
theorem intOp_and {k : IntKind} {a b : Int} : intOp .and k a b = some (.int k (andI k a b)) := Eq.trans rfl rfl
theorem intOp_or {k : IntKind} {a b : Int} : intOp .or k a b = some (.int k (orI k a b)) := Eq.trans rfl rfl
attribute [go_sem] intOp_and intOp_or
def rdA {α : Type} (l : List α) (n : Nat) (i : Int) : Option α := if 0 ≤ i ∧ i.toNat < n then l[i.toNat]? else none
section
variable {α : Type} {l : List α} {n : Nat} {i : Int} {x : α}
theorem rdA_and (h : rdA l n i = some x) : 0 ≤ i ∧ i.toNat < n ∧ l[i.toNat]? = some x := by
  unfold rdA at h
  split at h
  · rename_i hc; exact ⟨hc.1, hc.2, h⟩
  · cases h
theorem rdA_ge (h : rdA l n i = some x) : 0 ≤ i := (rdA_and h).1
theorem rdA_pos (h : rdA l n i = some x) : decide (0 ≤ i) = true := decide_eq_true (rdA_ge h)
theorem rdA_lt (h : rdA l n i = some x) : i.toNat < n := (rdA_and h).2.1
theorem rdA_get (h : rdA l n i = some x) : l[i.toNat]? = some x := (rdA_and h).2.2
theorem rdA_len (h : rdA l n i = some x) : i.toNat < l.length := by
  rcases Nat.lt_or_ge i.toNat l.length with h1 | h1
  · exact h1
  · have := rdA_get h; rw [List.getElem?_eq_none h1] at this; cases this
theorem rdA_map (e : α → D) (h : rdA l n i = some x) : (l.map fun z => V.d (e z))[i.toNat]? = some (V.d (e x)) := by rw [List.getElem?_map, rdA_get h]; rfl
theorem rdA_ne (h : rdA l n i = some x) : l ≠ [] := by rintro rfl; have := rdA_get h; simp at this
theorem set_len {k : Nat} (h : k < l.length) : k < (l.set k x).length := by rw [List.length_set]; exact h
theorem set_map (e : α → D) {k : Nat} (h : k < l.length) : ((l.set k x).map fun z => V.d (e z))[k]? = some (V.d (e x)) := by simp [h]
theorem set_mapd {e : α → D} {k : Nat} : (l.map fun z => V.d (e z)).set k (V.d (e x)) = (l.set k x).map fun z => V.d (e z) := by rw [List.map_set]
theorem mb_ne {b : Nat} {f : α → V} (h : l ≠ []) : mb b (l.map f) = .sl b 0 l.length := by
  cases l with
  | nil => exact absurd rfl h
  | cons x l => simp [mb]
theorem mbB_ne {sz fz : Nat} {f : α → V} (h : l ≠ []) : mbB sz fz (l.map f) = some (.els sz (l.map f) fz) := by
  cases l with
  | nil => exact absurd rfl h
  | cons x l => rfl
end
theorem rep_int {n : Nat} {k : IntKind} {a : Int} : List.replicate n (V.d (.int k a)) = (List.replicate n a).map fun z => V.d (.int k z) := by rw [List.map_replicate]
theorem rep_bool {n : Nat} {a : Bool} : List.replicate n (V.d (.bool a)) = (List.replicate n a).map fun z => V.d (.bool z) := by rw [List.map_replicate]
theorem rep_str {n : Nat} {a : List UInt8} : List.replicate n (V.d (.str a)) = (List.replicate n a).map fun z => V.d (.str z) := by rw [List.map_replicate]
theorem int_clen {k : IntKind} {a : Int} : (D.int k a).cells.length = 1 := rfl
theorem bool_clen {a : Bool} : (D.bool a).cells.length = 1 := rfl
theorem str_clen {a : List UInt8} : (D.str a).cells.length = 1 := rfl
attribute [go_sem] Nat.zero_le set_mapd int_clen bool_clen str_clen List.length_set List.length_replicate
theorem Wp.peel {A : AProg} {a : C} {s : St} {Q : Ex → St → Prop} (h : Wp A a s (Ex.seq A (.loop a) Q)) : Wp A (.loop a) s Q := by
  refine Wp.loop_step (h.mono fun e t hq => ?_)
  cases e <;> exact hq
attribute [go_sem] e_rangeS e_nextS itOf_str nextB_some nextO_it boxed_it sub_it convV_int convV_same convV_rune strOp_lss strOp_leq strOp_gtr strOp_geq
end Go.AI
