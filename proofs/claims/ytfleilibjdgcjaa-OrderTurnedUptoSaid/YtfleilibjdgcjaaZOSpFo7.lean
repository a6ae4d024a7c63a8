/- Shaken copy of a longer text: what one law needs. Its conditions: none. -/
import Derived.Test.YtfleilibjdgcjaaZOSpFo6
set_option linter.unusedSimpArgs false
set_option linter.unusedVariables false
set_option linter.unusedSimpArgs false
set_option linter.unusedVariables false
set_option linter.unusedSectionVars false
set_option linter.unnecessarySimpa false
namespace Go.Proofs.Ytfleilibjdgcjaa.O
open Go.AI
def par (f : List Node) (h : Int) : Int := (nodeD f h).parent
def kidsL (f : List Node) (h : Int) : List Int := (nodeD f h).kids.l
theorem nodeD_out {f : List Node} {h : Int} (hh : ¬isN f h) : nodeD f h = nd0 := by
  unfold nodeD
  rcases e : nodeO f h with _ | n
  · rfl
  · have := nodeO_some e; exact absurd ⟨this.1, this.2.1⟩ hh
theorem par_out {f : List Node} {h : Int} (hh : ¬isN f h) : par f h = 0 := by unfold par; rw [nodeD_out hh]; rfl
theorem kids_out {f : List Node} {h : Int} (hh : ¬isN f h) : kidsL f h = [] := by unfold kidsL; rw [nodeD_out hh]; rfl
theorem isN_zero {f : List Node} : ¬isN f 0 := by unfold isN; omega
theorem right_node {f : List Node} {h : Int} (hr : Right f) (hh : isN f h) : madeB (nodeD f h) = true ∧ linksB f h (nodeD f h) = true ∧ ¬Loops f h := by
  unfold isN at hh
  obtain ⟨n, hn⟩ := nodeO_in hh.1 hh.2
  obtain ⟨h1, h2, h3⟩ := nodeO_some hn
  have hk : (h - 1).toNat < f.length := by omega
  have := hr.2 (h - 1).toNat hk
  rw [List.getElem?_eq_getElem hk] at h3
  cases h3
  rw [show (((h - 1).toNat : Nat) : Int) + 1 = h by omega] at this
  unfold nodeD
  rw [hn]; exact this
structure Lk (f : List Node) (h : Int) : Prop where
  kids : ∀ y ∈ kidsL f h, isN f y ∧ par f y = h ∧ (nodeD f y).doc = (nodeD f h).doc
  nodup : (kidsL f h).Nodup
  par : par f h = 0 ∨ (isN f (par f h) ∧ h ∈ kidsL f (par f h))
  shadow : (nodeD f h).shadow = 0 ∨ (isN f (nodeD f h).shadow ∧ (nodeD f (nodeD f h).shadow).kind = 12 ∧ (nodeD f (nodeD f h).shadow).host = h)
  host : (nodeD f h).kind = 12 → isN f (nodeD f h).host ∧ (nodeD f (nodeD f h).host).kind = 1 ∧ (nodeD f (nodeD f h).host).shadow = h ∧ (nodeD f (nodeD f h).host).doc = (nodeD f h).doc
  doc : (nodeD f (nodeD f h).doc).kind = 9
  own : (nodeD f h).kind = 9 → (nodeD f h).doc = h
  fam : famB f (nodeD f h).kind (kidsL f h) = true
theorem links_lk {f : List Node} {h : Int} (hr : Right f) (hh : isN f h) : Lk f h := by
  obtain ⟨-, hl, -⟩ := right_node hr hh
  unfold linksB at hl
  simp only [Bool.and_eq_true, Bool.or_eq_true, isN_some, decide_eq_true_eq, beq_iff_eq, List.all_eq_true, kidOk, Bool.not_eq_true'] at hl
  obtain ⟨⟨⟨⟨⟨⟨⟨h1, h2⟩, h3⟩, h4⟩, h5⟩, h6⟩, h7⟩, h8⟩ := hl
  refine ⟨fun y hy => ⟨(h1 y hy).1.1, (h1 y hy).1.2, (h1 y hy).2⟩, h2, ?_, ?_, ?_, h4, ?_, h8⟩
  · rcases h3 with e | ⟨e1, e2⟩
    · exact .inl e
    · right
      refine ⟨e1, ?_⟩
      unfold kidsL par
      have : 0 < (nodeD f (nodeD f h).parent).kids.l.count h := by omega
      exact List.count_pos_iff.1 this
  · rcases h6 with e | ⟨⟨e1, e2⟩, e3⟩
    · exact .inl e
    · exact .inr ⟨e1, e2, e3⟩
  · intro e
    rcases h7 with e1 | ⟨⟨⟨e1, e2⟩, e3⟩, e4⟩
    · rw [e] at e1; simp at e1
    · exact ⟨e1, e2, e3, e4⟩
  · intro e
    rcases h5 with e1 | e1
    · rw [e] at e1; simp at e1
    · exact e1
theorem made_par {f : List Node} {h : Int} (hr : Right f) (hh : isN f h) (hk : (nodeD f h).kind = 12) : par f h = 0 := by
  obtain ⟨hm, -, -⟩ := right_node hr hh
  unfold madeB at hm
  simp only [Bool.and_eq_true] at hm
  have := hm.1.2
  rw [hk] at this
  simpa [dataK, par] using this
theorem par_in {f : List Node} {h : Int} (hr : Right f) (hp : par f h ≠ 0) : isN f h ∧ isN f (par f h) ∧ h ∈ kidsL f (par f h) ∧ nx f h = par f h := by
  have hh : isN f h := Classical.byContradiction fun hno => hp (par_out hno)
  obtain ⟨h1, h2⟩ := (links_lk hr hh).par.resolve_left hp
  refine ⟨hh, h1, h2, ?_⟩
  unfold nx aboveN
  by_cases e : (nodeD f h).kind = 12
  · exact absurd (made_par hr hh e) hp
  · rw [if_neg (by simpa using e)]; rfl
theorem kid_iff {f : List Node} {h y : Int} (hr : Right f) (hh : isN f h) : y ∈ kidsL f h ↔ isN f y ∧ par f y = h := by
  constructor
  · intro hy
    have := (links_lk hr hh).kids y hy
    exact ⟨this.1, this.2.1⟩
  · rintro ⟨hy, rfl⟩
    exact (par_in hr (fun e => isN_zero (e ▸ hh))).2.2.1
theorem kid_in {f : List Node} {h y : Int} (hr : Right f) (hy : y ∈ kidsL f h) : isN f h ∧ isN f y ∧ par f y = h ∧ nx f y = h := by
  have hh : isN f h := Classical.byContradiction fun hno => by rw [kids_out hno] at hy; cases hy
  obtain ⟨h1, h2⟩ := (kid_iff hr hh).1 hy
  have := par_in hr (show par f y ≠ 0 by rw [h2]; exact fun e => isN_zero (e ▸ hh))
  exact ⟨hh, h1, h2, by rw [this.2.2.2, h2]⟩
def dp (f : List Node) : Nat → Int → Nat
  | 0, _ => 0
  | n + 1, h => if isN f h then dp f n (nx f h) + 1 else 0
def dA (f : List Node) (h : Int) : Nat := dp f (f.length + 1) h
theorem dp_le (f : List Node) : ∀ n h, dp f n h ≤ n
  | 0, _ => Nat.le_refl _
  | n + 1, h => by
    unfold dp
    split
    · have := dp_le f n (nx f h); omega
    · omega
theorem dp_stable (f : List Node) : ∀ n x k, k ≤ n → ¬isN f (itr f k x) → dp f (n + 1) x = dp f n x
  | 0, x, k, hk, hn => by
    obtain rfl : k = 0 := by omega
    exact if_neg hn
  | n + 1, x, k, hk, hn => by
    show (if isN f x then dp f (n + 1) (nx f x) + 1 else 0) = (if isN f x then dp f n (nx f x) + 1 else 0)
    by_cases hx : isN f x
    · rcases k with _ | k
      · exact absurd hx hn
      · rw [if_pos hx, if_pos hx, dp_stable f n (nx f x) k (by omega) hn]
    · rw [if_neg hx, if_neg hx]
theorem dA_out {f : List Node} {h : Int} (hh : ¬isN f h) : dA f h = 0 := by
  show (if isN f h then _ else 0) = 0
  rw [if_neg hh]
theorem dA_le (f : List Node) (h : Int) : dA f h ≤ f.length + 1 := dp_le f _ _
theorem dA_nx {f : List Node} {h : Int} (hr : Right f) (hh : isN f h) : dA f h = dA f (nx f h) + 1 := by
  obtain ⟨-, -, hl⟩ := right_node hr hh
  have hex : ∃ k, k < f.length + 1 ∧ ¬isN f (itr f k h) := by
    refine Classical.byContradiction fun hno => hl (loops_upto fun k hk => ?_)
    exact Classical.byContradiction fun h2 => hno ⟨k, hk, h2⟩
  obtain ⟨k, hk, hn⟩ := hex
  rcases k with _ | k
  · exact absurd hh hn
  · show (if isN f h then dp f f.length (nx f h) + 1 else 0) = _
    rw [if_pos hh]
    unfold dA
    rw [dp_stable f f.length (nx f h) k (by omega) hn]
theorem nx_ind {f : List Node} (hr : Right f) {P : Int → Prop} (h0 : ∀ h, ¬isN f h → P h) (hs : ∀ h, isN f h → P (nx f h) → P h) : ∀ h, P h := by
  intro h
  generalize hm : dA f h = m
  induction m using Nat.strongRecOn generalizing h with
  | _ m ih =>
    by_cases hh : isN f h
    · have := dA_nx hr hh
      exact hs h hh (ih (dA f (nx f h)) (by omega) _ rfl)
    · exact h0 h hh
theorem par_ind {f : List Node} (hr : Right f) {P : Int → Prop} (h0 : ∀ h, ¬isN f h → P h) (hs : ∀ h, isN f h → P (par f h) → P h) : ∀ h, P h := by
  refine nx_ind hr h0 fun h hh hP => hs h hh ?_
  by_cases e : par f h = 0
  · rw [e]; exact h0 0 isN_zero
  · rw [← (par_in hr e).2.2.2]; exact hP
theorem down_ind {f : List Node} (hr : Right f) {P : Int → Prop} (hs : ∀ h, isN f h → (∀ k, isN f k → nx f k = h → P k) → P h) : ∀ h, isN f h → P h := by
  intro h hh
  generalize hm : f.length + 1 - dA f h = m
  induction m using Nat.strongRecOn generalizing h with
  | _ m ih =>
    refine hs h hh fun k hk e => ih _ ?_ k hk rfl
    have h1 := dA_nx hr hk
    have h2 := dA_le f k
    rw [e] at h1
    omega
theorem kid_ind {f : List Node} (hr : Right f) {P : Int → Prop} (hs : ∀ h, isN f h → (∀ k ∈ kidsL f h, P k) → P h) : ∀ h, isN f h → P h :=
  down_ind hr fun h hh ih => hs h hh fun k hk => ih k (kid_in hr hk).2.1 (kid_in hr hk).2.2.2
def ancP (f : List Node) : Nat → Int → List Int
  | 0, _ => []
  | n + 1, h => if isN f h then h :: ancP f n (par f h) else []
def anc (f : List Node) (h : Int) : List Int := ancP f (f.length + 1) h
theorem ancP_out {f : List Node} {h : Int} (hh : ¬isN f h) : ∀ n, ancP f n h = []
  | 0 => rfl
  | n + 1 => by unfold ancP; rw [if_neg hh]
theorem dA_par {f : List Node} {h : Int} (hr : Right f) (hh : isN f h) : dA f (par f h) + 1 ≤ dA f h := by
  have h1 := dA_nx hr hh
  by_cases e : par f h = 0
  · rw [e, dA_out isN_zero]; omega
  · rw [(par_in hr e).2.2.2] at h1; omega
theorem ancP_stable {f : List Node} (hr : Right f) : ∀ n h, dA f h ≤ n → ancP f (n + 1) h = ancP f n h
  | 0, h, hd => by
    by_cases hh : isN f h
    · have := dA_nx hr hh; omega
    · rw [ancP_out hh, ancP_out hh]
  | n + 1, h, hd => by
    show (if isN f h then h :: ancP f (n + 1) (par f h) else []) = (if isN f h then h :: ancP f n (par f h) else [])
    by_cases hh : isN f h
    · have := dA_par hr hh
      rw [if_pos hh, if_pos hh, ancP_stable hr n _ (by omega)]
    · rw [if_neg hh, if_neg hh]
theorem anc_out {f : List Node} {h : Int} (hh : ¬isN f h) : anc f h = [] := ancP_out hh _
theorem anc_in {f : List Node} {h : Int} (hr : Right f) (hh : isN f h) : anc f h = h :: anc f (par f h) := by
  show (if isN f h then h :: ancP f f.length (par f h) else []) = _
  have h1 := dA_par hr hh
  have h2 := dA_le f h
  rw [if_pos hh]
  unfold anc
  rw [ancP_stable hr f.length _ (by omega)]
theorem anc_len (f : List Node) (h : Int) : (anc f h).length ≤ f.length + 1 := by
  have : ∀ n h, (ancP f n h).length ≤ n := by
    intro n
    induction n with
    | zero => intro h; exact Nat.le_refl _
    | succ n ih =>
      intro h
      unfold ancP
      split
      · have := ih (par f h); simp; omega
      · simp
  exact this _ _
theorem anc_mem {f : List Node} (hr : Right f) {k : Int} : ∀ b, k ∈ anc f b → isN f k ∧ isN f b := by
  refine par_ind hr (fun h hh hk => by rw [anc_out hh] at hk; cases hk) fun h hh ih hk => ?_
  rw [anc_in hr hh] at hk
  rcases List.mem_cons.1 hk with rfl | hk
  · exact ⟨hh, hh⟩
  · exact ⟨(ih hk).1, hh⟩
theorem anc_self {f : List Node} {h : Int} (hr : Right f) (hh : isN f h) : h ∈ anc f h := by rw [anc_in hr hh]; exact List.mem_cons_self
theorem anc_up {f : List Node} (hr : Right f) {k : Int} (hp : par f k ≠ 0) : ∀ b, k ∈ anc f b → par f k ∈ anc f b := by
  refine par_ind hr (fun h hh hk => by rw [anc_out hh] at hk; cases hk) fun h hh ih hk => ?_
  rw [anc_in hr hh] at hk ⊢
  rcases List.mem_cons.1 hk with rfl | hk
  · exact List.mem_cons_of_mem _ (anc_self hr (par_in hr hp).2.1)
  · exact List.mem_cons_of_mem _ (ih hk)
theorem anc_depth {f : List Node} (hr : Right f) {k : Int} : ∀ b, k ∈ anc f b → dA f k ≤ dA f b := by
  refine par_ind hr (fun h hh hk => by rw [anc_out hh] at hk; cases hk) fun h hh ih hk => ?_
  rw [anc_in hr hh] at hk
  rcases List.mem_cons.1 hk with rfl | hk
  · exact Nat.le_refl _
  · have := ih hk; have := dA_par hr hh; omega
theorem anc_anti {f : List Node} (hr : Right f) {a b : Int} (h1 : a ∈ anc f b) (h2 : b ∈ anc f a) : a = b := by
  have hb := (anc_mem hr _ h1).2
  rw [anc_in hr hb] at h1
  rcases List.mem_cons.1 h1 with e | h1
  · exact e
  · have := anc_depth hr _ h1
    have := anc_depth hr _ h2
    have := dA_par hr hb
    omega
def root (f : List Node) (h : Int) : Int := (anc f h).getLast?.getD 0
theorem root_top {f : List Node} {h : Int} (hr : Right f) (hh : isN f h) (hp : par f h = 0) : root f h = h := by
  unfold root
  rw [anc_in hr hh, hp, anc_out isN_zero]; rfl
theorem root_par {f : List Node} {h : Int} (hr : Right f) (hp : par f h ≠ 0) : root f h = root f (par f h) := by
  obtain ⟨hh, h1, -, -⟩ := par_in hr hp
  unfold root
  rw [anc_in hr hh, anc_in hr h1, List.getLast?_cons_cons]
theorem root_mem {f : List Node} (hr : Right f) : ∀ h, isN f h → root f h ∈ anc f h ∧ par f (root f h) = 0 ∧ isN f (root f h) := by
  refine par_ind hr (fun h hh hk => absurd hk hh) fun h hh ih _ => ?_
  by_cases hp : par f h = 0
  · rw [root_top hr hh hp]; exact ⟨anc_self hr hh, hp, hh⟩
  · obtain ⟨g1, g2, g3⟩ := ih (par_in hr hp).2.1
    rw [root_par hr hp]
    exact ⟨by rw [anc_in hr hh]; exact List.mem_cons_of_mem _ g1, g2, g3⟩
theorem root_uniq {f : List Node} (hr : Right f) {r : Int} (hp : par f r = 0) : ∀ b, r ∈ anc f b → r = root f b := by
  refine par_ind hr (fun h hh hk => by rw [anc_out hh] at hk; cases hk) fun h hh ih hk => ?_
  rw [anc_in hr hh] at hk
  by_cases hq : par f h = 0
  · rw [hq, anc_out isN_zero] at hk
    rcases List.mem_cons.1 hk with rfl | hk
    · exact (root_top hr hh hq).symm
    · cases hk
  · rcases List.mem_cons.1 hk with rfl | hk
    · exact absurd hp hq
    · rw [root_par hr hq]; exact ih hk
def allP (f : List Node) : Nat → Int → List Int
  | 0, _ => []
  | n + 1, h => h :: (kidsL f h).flatMap (allP f n)
def allL (f : List Node) (h : Int) : List Int := allP f (f.length + 1) h
theorem fm_congr {α β : Type} {g1 g2 : α → List β} : ∀ {l : List α}, (∀ a ∈ l, g1 a = g2 a) → l.flatMap g1 = l.flatMap g2
  | [], _ => rfl
  | a :: l, h => by rw [List.flatMap_cons, List.flatMap_cons, h a List.mem_cons_self, fm_congr fun b hb => h b (List.mem_cons_of_mem _ hb)]
theorem dA_kid {f : List Node} {h k : Int} (hr : Right f) (hk : k ∈ kidsL f h) : dA f k = dA f h + 1 := by
  obtain ⟨_, h1, _, h3⟩ := kid_in hr hk
  rw [dA_nx hr h1, h3]
theorem allP_stable {f : List Node} (hr : Right f) : ∀ n h, f.length + 2 ≤ n + dA f h → allP f (n + 1) h = allP f n h
  | 0, h, hd => by have := dA_le f h; omega
  | n + 1, h, hd => by
    show h :: (kidsL f h).flatMap (allP f (n + 1)) = h :: (kidsL f h).flatMap (allP f n)
    rw [fm_congr fun k hk => allP_stable hr n k (by have := dA_kid hr hk; omega)]
theorem all_in {f : List Node} {h : Int} (hr : Right f) (hh : isN f h) : allL f h = h :: (kidsL f h).flatMap (allL f) := by
  show h :: (kidsL f h).flatMap (allP f f.length) = _
  rw [fm_congr fun k hk => (allP_stable hr f.length k (by have := dA_kid hr hk; have := dA_nx hr hh; omega)).symm]
  rfl
theorem all_sub {f : List Node} (hr : Right f) {x : Int} : ∀ h, isN f h → x ∈ allL f h → h ∈ anc f x := by
  refine kid_ind hr fun h hh ih hx => ?_
  rw [all_in hr hh] at hx
  rcases List.mem_cons.1 hx with rfl | hx
  · exact anc_self hr hh
  · obtain ⟨k, hk, hx⟩ := List.mem_flatMap.1 hx
    have h1 := ih k hk hx
    obtain ⟨_, _, e, _⟩ := kid_in hr hk
    have := anc_up hr (show par f k ≠ 0 by rw [e]; exact fun e => isN_zero (e ▸ hh)) _ h1
    rwa [e] at this
theorem all_trans {f : List Node} (hr : Right f) {x k : Int} (hk : k ∈ kidsL f x) : ∀ h, isN f h → x ∈ allL f h → k ∈ allL f h := by
  refine kid_ind hr fun h hh ih hx => ?_
  rw [all_in hr hh] at hx ⊢
  rcases List.mem_cons.1 hx with rfl | hx
  · refine List.mem_cons_of_mem _ (List.mem_flatMap.2 ⟨k, hk, ?_⟩)
    rw [all_in hr (kid_in hr hk).2.1]; exact List.mem_cons_self
  · obtain ⟨y, hy, hx⟩ := List.mem_flatMap.1 hx
    exact List.mem_cons_of_mem _ (List.mem_flatMap.2 ⟨y, hy, ih y hy hx⟩)
theorem sub_all {f : List Node} (hr : Right f) {h : Int} : ∀ b, h ∈ anc f b → b ∈ allL f h := by
  refine par_ind hr (fun b hb hk => by rw [anc_out hb] at hk; cases hk) fun b hb ih hk => ?_
  have hh := (anc_mem hr _ hk).1
  rw [anc_in hr hb] at hk
  rcases List.mem_cons.1 hk with rfl | hk
  · rw [all_in hr hh]; exact List.mem_cons_self
  · have hp : par f b ≠ 0 := fun e => by rw [e, anc_out isN_zero] at hk; cases hk
    exact all_trans hr (par_in hr hp).2.2.1 h hh (ih hk)
theorem mem_all {f : List Node} (hr : Right f) {h b : Int} (hh : isN f h) : b ∈ allL f h ↔ h ∈ anc f b := ⟨all_sub hr h hh, sub_all hr b⟩
theorem mem_root {f : List Node} (hr : Right f) {a b : Int} (ha : isN f a) (hb : isN f b) : b ∈ allL f (root f a) ↔ root f a = root f b := by
  obtain ⟨h1, h2, h3⟩ := root_mem hr a ha
  rw [mem_all hr h3]
  constructor
  · exact root_uniq hr h2 b
  · intro e; rw [e]; exact (root_mem hr b hb).1
end Go.Proofs.Ytfleilibjdgcjaa.O
