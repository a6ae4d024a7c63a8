/- Shaken copy of a longer text: what one law needs. Its conditions: none. -/
import Derived.Test.YtnijbejobbajfaaZDDec0
set_option linter.unusedSimpArgs false
set_option linter.unusedVariables false
set_option maxHeartbeats 1000000
namespace Go.Proofs.Ytnijbejobbajfaa.D
open Go.AI
noncomputable def P9 (a0 : Listeners) (a1 : Run) : Option (Bool) :=
  (dec eRun (pc prog 45 [eRun a1])).bind fun r1 =>
  (dec (eT5 eRun eListeners eCall D.bool (D.int .i64)) (pc prog 46 [eListeners a0, eRun r1])).bind fun r3 =>
  (dec (eT5 eRun eListeners eCall D.bool (D.int .i64)) (pc prog 47 [eListeners a0, eRun a1])).bind fun r5 =>
  (dec D.bool (pc prog 40 [eRun r3.1, eRun r5.1])).bind fun r7 =>
  if r7 = true then
    (dec D.bool (pc prog 20 [eListeners r3.2.1, eListeners r5.2.1])).bind fun r11 =>
    if (bif (bif (bif r11 then (decide (r3.2.2.1 = r5.2.2.1)) else false) then (r3.2.2.2.1 == r5.2.2.2.1) else false) then (r3.2.2.2.2 == r5.2.2.2.2) else false) = true then
      (dec D.bool (pc prog 40 [eRun r1, eRun a1])).bind fun r15 =>
      if r15 = true then
        (dec D.bool (pc prog 44 [])).bind fun r19 =>
        some r19
      else
        some false
    else
      some false
  else
    some false
def L46_2_S (a0 : Listeners) (r11 : Sl (Listener)) (x1 : Run) (y19 : Int) (y21 : List (Int)) (x2 : Int) : St := ⟨((((Regs.none.set 0 (.d (.list r11.n (r11.l.map eListener)))).set 1 (.clo 90 [] [.ptr 57 0 0])).set 7 (.d (.int .i64 (r11.l.length : Int)))).set 8 (.d (.int .i64 x2))), ((((((((((Heap.at 77).set 0 (some (.els 2 [.d (eListeners (⟨r11, a0.next⟩ : Listeners))] 0))).set 2 (some (.els 17 [.d (.agg [.str ([]), .bool false, .bool false, .bool false, .bool false, .bool false, .bool false, .bool false, .bool false, .int .u8 (0), .int .i64 (0), .int .i64 (0), .int .i64 (0), .list true [], .int .i64 (0), .list true [], .bool false])] 0))).set 3 (some (.els 2 [.d (.agg [.list true [], .int .i64 (0)])] 0))).set 4 (some (.els 3 [.d (.agg [.int .i64 (0), .int .i64 (0), .int .i64 (0)])] 0))).set 17 (some (.els 17 [.d (eRun { x1 with due := ⟨x1.due.n, y21⟩ })] 0))).set 41 (some (.els 2 [.d (eListeners (⟨r11, a0.next⟩ : Listeners))] 0))).set 42 (some (.els 2 [.d (.agg [.list true [], .int .i64 (0)])] 0))).set 43 (some (.els 3 [.d (.agg [.int .i64 (0), .int .i64 (0), .int .i64 (0)])] 0))).set 57 (some (.els 1 [.d (.int .i64 y19)] 0)))⟩
def L46_2_F (a0 : Listeners) (r11 : Sl (Listener)) (x1 : Run) (y19 : Int) (y21 : List (Int)) : ((Unit) ⊕ (Int)) → Ex × St := fun r => match r with
  | (.inl r) => (.exit 0, ⟨Regs.none, ((((((((((Heap.at 77).set 0 (some (.els 2 [.d (eListeners (⟨r11, a0.next⟩ : Listeners))] 0))).set 2 (some (.els 17 [.d (.agg [.str ([]), .bool false, .bool false, .bool false, .bool false, .bool false, .bool false, .bool false, .bool false, .int .u8 (0), .int .i64 (0), .int .i64 (0), .int .i64 (0), .list true [], .int .i64 (0), .list true [], .bool false])] 0))).set 3 (some (.els 2 [.d (.agg [.list true [], .int .i64 (0)])] 0))).set 4 (some (.els 3 [.d (.agg [.int .i64 (0), .int .i64 (0), .int .i64 (0)])] 0))).set 17 (some (.els 17 [.d (eRun { x1 with due := ⟨x1.due.n, y21⟩ })] 0))).set 41 (some (.els 2 [.d (eListeners (⟨r11, a0.next⟩ : Listeners))] 0))).set 42 (some (.els 2 [.d (.agg [.list true [], .int .i64 (0)])] 0))).set 43 (some (.els 3 [.d (.agg [.int .i64 (0), .int .i64 (0), .int .i64 (0)])] 0))).set 57 (some (.els 1 [.d (.int .i64 y19)] 0)))⟩)
  | (.inr r) => (.ret, ⟨(Regs.none.set 4 (.d (.int .i64 r))), ((((((((((Heap.at 77).set 0 (some (.els 2 [.d (eListeners (⟨r11, a0.next⟩ : Listeners))] 0))).set 2 (some (.els 17 [.d (.agg [.str ([]), .bool false, .bool false, .bool false, .bool false, .bool false, .bool false, .bool false, .bool false, .int .u8 (0), .int .i64 (0), .int .i64 (0), .int .i64 (0), .list true [], .int .i64 (0), .list true [], .bool false])] 0))).set 3 (some (.els 2 [.d (.agg [.list true [], .int .i64 (0)])] 0))).set 4 (some (.els 3 [.d (.agg [.int .i64 (0), .int .i64 (0), .int .i64 (0)])] 0))).set 17 (some (.els 17 [.d (eRun { x1 with due := ⟨x1.due.n, y21⟩ })] 0))).set 41 (some (.els 2 [.d (eListeners (⟨r11, a0.next⟩ : Listeners))] 0))).set 42 (some (.els 2 [.d (.agg [.list true [], .int .i64 (0)])] 0))).set 43 (some (.els 3 [.d (.agg [.int .i64 (0), .int .i64 (0), .int .i64 (0)])] 0))).set 57 (some (.els 1 [.d (.int .i64 y19)] 0)))⟩)
noncomputable def L46_2_step (a0 : Listeners) (r11 : Sl (Listener)) (x1 : Run) (y19 : Int) (y21 : List (Int)) (x2 : Int) : Option ((Int) ⊕ ((Unit) ⊕ (Int))) :=
  if (decide (x2 < (r11.l.length : Int))) = true then
    (rd r11.l x2).bind fun y25 =>
    if (y25.id == y19) = true then
      some (.inr (.inr x2))
    else
      some (.inl (IntKind.wrap .i64 (x2 + 1)))
  else
    some (.inr (.inl ()))
theorem L46_2_ok (a0 : Listeners) (r11 : Sl (Listener)) (x1 : Run) (y19 : Int) (y21 : List (Int)) (x2 : Int) (o : (Int) ⊕ ((Unit) ⊕ (Int))) (h : L46_2_step a0 r11 x1 y19 y21 x2 = some o) : Wp prog c87B0 (L46_2_S a0 r11 x1 y19 y21 x2) (LPost 73 (L46_2_S a0 r11 x1 y19 y21) (L46_2_F a0 r11 x1 y19 y21) o) := by
  unfold L46_2_step at h
  delta c87B0 L46_2_S
  try simp only [go_sem]
  first | refine WBr_splitN (fun hc23 => ?_) (fun hc24 => ?_) | refine WBr_split (fun hc23 => ?_) (fun hc24 => ?_)
  · rw [if_pos (show (decide (x2 < (r11.l.length : Int))) = true by first | exact hc23 | simpa using hc23)] at h
    try simp only [go_sem]
    obtain ⟨y25, hy26, h⟩ := Option.bind_eq_some_iff.1 h
    try simp only [go_sem, rd_pos hy26, rd_ge hy26, rd_map eListener hy26]
    refine WVal_inlC (fn := c90) rfl rfl ?_
    delta c90
    try simp only [go_sem, rd_pos hy26, rd_ge hy26, rd_map eListener hy26]
    first | refine WBr_splitN (fun hc27 => ?_) (fun hc28 => ?_) | refine WBr_split (fun hc27 => ?_) (fun hc28 => ?_)
    · rw [if_pos (show (y25.id == y19) = true by first | exact hc27 | simpa using hc27)] at h
      try simp only [go_sem, rd_pos hy26, rd_ge hy26, rd_map eListener hy26]
      cases h
      exact ⟨rfl, by simp, Up.of (N := 77) (N' := 95) [] rfl rfl (by decide) (.set (.d _) RegsR.none) (.set BlkR.refl_d (.set BlkR.refl_d (.set BlkR.refl_d (.set BlkR.refl_d (.set BlkR.refl_d (.set BlkR.refl_d (.set BlkR.refl_d (.set BlkR.refl_d (.set BlkR.refl_d BlksR.at)))))))))⟩
    · rw [if_neg (show ¬ (y25.id == y19) = true by first | (rw [hc28]; exact Bool.false_ne_true) | simpa using hc28 | (simp at hc28 ⊢; omega))] at h
      try simp only [go_sem, rd_pos hy26, rd_ge hy26, rd_map eListener hy26]
      cases h
      exact ⟨rfl, Up.of (N := 77) (N' := 95) [] rfl rfl (by decide) (.set (.d _) (.set (.d _) (.set (.clo' .nil (.cons (.ptr' rfl) .nil)) (.set (.d _) RegsR.none)))) (.set BlkR.refl_d (.set BlkR.refl_d (.set BlkR.refl_d (.set BlkR.refl_d (.set BlkR.refl_d (.set BlkR.refl_d (.set BlkR.refl_d (.set BlkR.refl_d (.set BlkR.refl_d BlksR.at)))))))))⟩
  · rw [if_neg (show ¬ (decide (x2 < (r11.l.length : Int))) = true by first | (rw [hc24]; exact Bool.false_ne_true) | simpa using hc24 | (simp at hc24 ⊢; omega))] at h
    try simp only [go_sem]
    cases h
    exact ⟨rfl, by simp, Up.of (N := 77) (N' := 78) [] rfl rfl (by decide) RegsR.none (.set BlkR.refl_d (.set BlkR.refl_d (.set BlkR.refl_d (.set BlkR.refl_d (.set BlkR.refl_d (.set BlkR.refl_d (.set BlkR.refl_d (.set BlkR.refl_d (.set BlkR.refl_d BlksR.at)))))))))⟩
def L46_1_S (a0 : Listeners) (r11 : Sl (Listener)) (x1 : Run) : St := ⟨((((Regs.none.set 1 (.ptr 17 0 0)).set 2 (.ptr 41 0 0)).set 4 (.ptr 42 0 0)).set 5 (.ptr 43 0 0)), (((((((((Heap.at 45).set 0 (some (.els 2 [.d (eListeners (⟨r11, a0.next⟩ : Listeners))] 0))).set 2 (some (.els 17 [.d (.agg [.str ([]), .bool false, .bool false, .bool false, .bool false, .bool false, .bool false, .bool false, .bool false, .int .u8 (0), .int .i64 (0), .int .i64 (0), .int .i64 (0), .list true [], .int .i64 (0), .list true [], .bool false])] 0))).set 3 (some (.els 2 [.d (.agg [.list true [], .int .i64 (0)])] 0))).set 4 (some (.els 3 [.d (.agg [.int .i64 (0), .int .i64 (0), .int .i64 (0)])] 0))).set 17 (some (.els 17 [.d (eRun x1)] 0))).set 41 (some (.els 2 [.d (eListeners (⟨r11, a0.next⟩ : Listeners))] 0))).set 42 (some (.els 2 [.d (.agg [.list true [], .int .i64 (0)])] 0))).set 43 (some (.els 3 [.d (.agg [.int .i64 (0), .int .i64 (0), .int .i64 (0)])] 0)))⟩
def L46_1_F (a0 : Listeners) (r11 : Sl (Listener)) : ((Run) ⊕ (Run × Listeners × Call)) → Ex × St := fun r => match r with
  | (.inl r) => (.exit 0, ⟨(((Regs.none.set 2 (.ptr 41 0 0)).set 4 (.ptr 42 0 0)).set 5 (.ptr 43 0 0)), (((((((((Heap.at 45).set 0 (some (.els 2 [.d (eListeners (⟨r11, a0.next⟩ : Listeners))] 0))).set 2 (some (.els 17 [.d (.agg [.str ([]), .bool false, .bool false, .bool false, .bool false, .bool false, .bool false, .bool false, .bool false, .int .u8 (0), .int .i64 (0), .int .i64 (0), .int .i64 (0), .list true [], .int .i64 (0), .list true [], .bool false])] 0))).set 3 (some (.els 2 [.d (.agg [.list true [], .int .i64 (0)])] 0))).set 4 (some (.els 3 [.d (.agg [.int .i64 (0), .int .i64 (0), .int .i64 (0)])] 0))).set 17 (some (.els 17 [.d (eRun r)] 0))).set 41 (some (.els 2 [.d (eListeners (⟨r11, a0.next⟩ : Listeners))] 0))).set 42 (some (.els 2 [.d (.agg [.list true [], .int .i64 (0)])] 0))).set 43 (some (.els 3 [.d (.agg [.int .i64 (0), .int .i64 (0), .int .i64 (0)])] 0)))⟩)
  | (.inr r) => (.ret, ⟨(((Regs.none.set 4 (.ptr 42 0 0)).set 5 (.ptr 43 0 0)).set 6 (.d (.bool true))), ((((((((Heap.at 45).set 0 (some (.els 2 [.d (eListeners (⟨r11, a0.next⟩ : Listeners))] 0))).set 2 (some (.els 17 [.d (.agg [.str ([]), .bool false, .bool false, .bool false, .bool false, .bool false, .bool false, .bool false, .bool false, .int .u8 (0), .int .i64 (0), .int .i64 (0), .int .i64 (0), .list true [], .int .i64 (0), .list true [], .bool false])] 0))).set 3 (some (.els 2 [.d (.agg [.list true [], .int .i64 (0)])] 0))).set 4 (some (.els 3 [.d (.agg [.int .i64 (0), .int .i64 (0), .int .i64 (0)])] 0))).set 17 (some (.els 17 [.d (eRun r.1)] 0))).set 42 (some (.els 2 [.d (eListeners r.2.1)] 0))).set 43 (some (.els 3 [.d (eCall r.2.2)] 0)))⟩)
noncomputable def L46_1_step (a0 : Listeners) (r11 : Sl (Listener)) (x1 : Run) : Option ((Run) ⊕ ((Run) ⊕ (Run × Listeners × Call))) :=
  if (decide (0 < (x1.due.l.length : Int))) = true then
    (rd x1.due.l (0)).bind fun y19 =>
    (cut x1.due.l (1) (x1.due.l.length : Int)).bind fun y21 =>
    (loopV (L46_2_step a0 r11 x1 y19 y21) 0).bind fun r29 =>
    match r29 with
    | (.inl q31) =>
      some (.inl { x1 with due := ⟨x1.due.n, y21⟩ })
    | (.inr q32) =>
      if (decide (q32 < 0)) = true then
        some (.inl { x1 with due := ⟨x1.due.n, y21⟩ })
      else
        (rd r11.l q32).bind fun y35 =>
        (if y35.once = true then
          (dec (eT3 eListeners D.bool (D.int .i64)) (pc prog 34 [eListeners (⟨r11, a0.next⟩ : Listeners), .int .i64 y19])).bind fun r39 =>
          some r39.1
        else
          some (⟨r11, a0.next⟩ : Listeners) : Option ((Listeners))).bind fun r41 =>
        (dec (eT2 (D.int .i64) D.bool) (pc prog 91 [eRun { x1 with event := { x1.event with passive := (y35.passive == 1) }, due := ⟨x1.due.n, y21⟩ }, .int .i64 (IntKind.wrap .i64 (x1.turn - 1))])).bind fun r43 =>
        some (.inr (.inr ({ x1 with event := { x1.event with passive := (y35.passive == 1) }, due := ⟨x1.due.n, y21⟩ }, r41, (⟨y19, y35.callback, r43.1⟩ : Call))))
  else
    some (.inr (.inl x1))
theorem L46_1_ok (a0 : Listeners) (r11 : Sl (Listener)) (x1 : Run) (o : (Run) ⊕ ((Run) ⊕ (Run × Listeners × Call))) (h : L46_1_step a0 r11 x1 = some o) : Wp prog c77B0 (L46_1_S a0 r11 x1) (LPost 41 (L46_1_S a0 r11) (L46_1_F a0 r11) o) := by
  unfold L46_1_step at h
  delta c77B0 L46_1_S
  try simp only [go_sem]
  first | refine WBr_splitN (fun hc17 => ?_) (fun hc18 => ?_) | refine WBr_split (fun hc17 => ?_) (fun hc18 => ?_)
  · rw [if_pos (show (decide (0 < (x1.due.l.length : Int))) = true by first | exact hc17 | simpa using hc17)] at h
    try simp only [go_sem]
    obtain ⟨y19, hy20, h⟩ := Option.bind_eq_some_iff.1 h
    try simp only [go_sem, (show (x1.due.l.map (D.int .i64))[0]? = some ((D.int .i64) y19) from rd_map (D.int .i64) hy20)]
    obtain ⟨y21, hy22, h⟩ := Option.bind_eq_some_iff.1 h
    refine WVal_slice (e := (D.int .i64)) (n := x1.due.n) (l := x1.due.l) (sz := 1) (lo := (some (1))) (hi := none) (by simp only [go_sem, (show (x1.due.l.map (D.int .i64))[0]? = some ((D.int .i64) y19) from rd_map (D.int .i64) hy20), optI]; first | done | rfl | (split <;> rfl) | (split <;> split <;> rfl)) (by decide) (fun _ => rfl) hy22 ?_
    try simp only [go_sem, (show (x1.due.l.map (D.int .i64))[0]? = some ((D.int .i64) y19) from rd_map (D.int .i64) hy20)]
    refine WVal_inl (fn := c87) rfl rfl ?_
    delta c87
    try simp only [go_sem, (show (x1.due.l.map (D.int .i64))[0]? = some ((D.int .i64) y19) from rd_map (D.int .i64) hy20)]
    obtain ⟨r29, hl30, h⟩ := Option.bind_eq_some_iff.1 h
    refine Wp.loopR locs (n := 73) (a := c87B0) rfl (L46_2_S a0 r11 x1 y19 y21) (L46_2_F a0 r11 x1 y19 y21) (L46_2_ok a0 r11 x1 y19 y21) hl30 ?_ (by (repeat (first | refine Clo.block ?_ | refine Clo.seq locs rfl ?_)); refine Clo.inl locs (n' := 41) rfl rfl rfl ?_ ?_ (show 68 + 5 ≤ _ from by decide) (by decide) ?_; ((repeat (first | exact SelfR.no | exact SelfR.none | refine SelfR.set ?_ ?_ | refine SelfR.args ?_ | exact SelfL.nil | refine SelfL.cons ?_ ?_ | exact Self.d | exact Self.undef | exact Self.rp | exact Self.ptr (by decide) | exact Self.sl (by decide) | exact Self.mb (by decide) | exact Self.map (by decide) | exact Self.yld (by decide) | refine Self.clo ?_ ?_ | refine Self.ofCells ?_ | refine Self.agg ?_ | refine Self.tuple ?_ | refine Self.bif ?_ ?_)); (repeat (first | exact SelfR.no | exact SelfR.none | refine SelfR.set ?_ ?_ | refine SelfR.args ?_ | exact SelfL.nil | refine SelfL.cons ?_ ?_ | exact Self.d | exact Self.undef | exact Self.rp | exact Self.ptr (by decide) | exact Self.sl (by decide) | exact Self.mb (by decide) | exact Self.map (by decide) | exact Self.yld (by decide) | refine Self.clo ?_ ?_ | refine Self.ofCells ?_ | refine Self.agg ?_ | refine Self.tuple ?_ | refine Self.bif ?_ ?_))); (repeat (first | refine Clo.block ?_ | refine Clo.seq locs rfl ?_)); (first | exact Clo.ret | exact Clo.lpost | exact Clo.cpost)) ?_
    · show Up 73 (L46_2_S a0 r11 x1 y19 y21 0) _
      delta L46_2_S
      exact Up.of (N := 77) (N' := 77) [] rfl rfl (by decide) (.set (.d _) (.set (.d _) (.set (.clo' .nil (.cons (.ptr' rfl) .nil)) (.set (.d _) RegsR.none)))) (.set BlkR.refl_d (.set BlkR.refl_d (.set BlkR.refl_d (.set BlkR.refl_d (.set BlkR.refl_d (.set BlkR.refl_d (.set BlkR.refl_d (.set BlkR.refl_d (.set BlkR.refl_d BlksR.at)))))))))
    · rcases r29 with (q31 | q32)
      · dsimp only at h
        dsimp only [L46_2_F]
        try simp only [go_sem, (show (x1.due.l.map (D.int .i64))[0]? = some ((D.int .i64) y19) from rd_map (D.int .i64) hy20)]
        cases h
        exact ⟨rfl, Up.of (N := 45) (N' := 80) [] rfl rfl (by decide) (.set (.ptr' rfl) (.set (.ptr' rfl) (.set (.ptr' rfl) (.set (.ptr' rfl) RegsR.none)))) (.set BlkR.refl_d (.set BlkR.refl_d (.set BlkR.refl_d (.set BlkR.refl_d (.set BlkR.refl_d (.set BlkR.refl_d (.set BlkR.refl_d (.set BlkR.refl_d BlksR.at))))))))⟩
      · dsimp only at h
        dsimp only [L46_2_F]
        try simp only [go_sem, (show (x1.due.l.map (D.int .i64))[0]? = some ((D.int .i64) y19) from rd_map (D.int .i64) hy20)]
        first | refine WBr_splitN (fun hc33 => ?_) (fun hc34 => ?_) | refine WBr_split (fun hc33 => ?_) (fun hc34 => ?_)
        · rw [if_pos (show (decide (q32 < 0)) = true by first | exact hc33 | simpa using hc33)] at h
          try simp only [go_sem, (show (x1.due.l.map (D.int .i64))[0]? = some ((D.int .i64) y19) from rd_map (D.int .i64) hy20)]
          cases h
          exact ⟨rfl, Up.of (N := 45) (N' := 79) [] rfl rfl (by decide) (.set (.ptr' rfl) (.set (.ptr' rfl) (.set (.ptr' rfl) (.set (.ptr' rfl) RegsR.none)))) (.set BlkR.refl_d (.set BlkR.refl_d (.set BlkR.refl_d (.set BlkR.refl_d (.set BlkR.refl_d (.set BlkR.refl_d (.set BlkR.refl_d (.set BlkR.refl_d BlksR.at))))))))⟩
        · rw [if_neg (show ¬ (decide (q32 < 0)) = true by first | (rw [hc34]; exact Bool.false_ne_true) | simpa using hc34 | (simp at hc34 ⊢; omega))] at h
          try simp only [go_sem, (show (x1.due.l.map (D.int .i64))[0]? = some ((D.int .i64) y19) from rd_map (D.int .i64) hy20)]
          obtain ⟨y35, hy36, h⟩ := Option.bind_eq_some_iff.1 h
          try simp only [go_sem, (show (x1.due.l.map (D.int .i64))[0]? = some ((D.int .i64) y19) from rd_map (D.int .i64) hy20), rd_pos hy36, rd_ge hy36, rd_map eListener hy36]
          obtain ⟨r41, hl42, h⟩ := Option.bind_eq_some_iff.1 h
          refine WBr.cut (n := 41) .normal ⟨((((((Regs.none.set 1 (.ptr 17 0 0)).set 2 (.ptr 41 0 0)).set 4 (.ptr 42 0 0)).set 5 (.ptr 43 0 0)).set 7 (.ptr 57 0 0)).set 9 (.ptr 84 0 0)), (((((((((((Heap.at 88).set 0 (some (.els 2 [.d (eListeners (⟨r11, a0.next⟩ : Listeners))] 0))).set 2 (some (.els 17 [.d (.agg [.str ([]), .bool false, .bool false, .bool false, .bool false, .bool false, .bool false, .bool false, .bool false, .int .u8 (0), .int .i64 (0), .int .i64 (0), .int .i64 (0), .list true [], .int .i64 (0), .list true [], .bool false])] 0))).set 3 (some (.els 2 [.d (.agg [.list true [], .int .i64 (0)])] 0))).set 4 (some (.els 3 [.d (.agg [.int .i64 (0), .int .i64 (0), .int .i64 (0)])] 0))).set 17 (some (.els 17 [.d (eRun { x1 with due := ⟨x1.due.n, y21⟩ })] 0))).set 41 (some (.els 2 [.d (eListeners r41)] 0))).set 42 (some (.els 2 [.d (.agg [.list true [], .int .i64 (0)])] 0))).set 43 (some (.els 3 [.d (.agg [.int .i64 (0), .int .i64 (0), .int .i64 (0)])] 0))).set 57 (some (.els 1 [.d (.int .i64 y19)] 0))).set 84 (some (.els 8 [.d (eListener y35)] 0)))⟩ ?_ (by (repeat (first | refine Clo.block ?_ | refine Clo.seq locs rfl ?_)); (first | exact Clo.ret | exact Clo.lpost | exact Clo.cpost)) ?_
          · replace h := hl42
            first | refine WBr_splitN (fun hc37 => ?_) (fun hc38 => ?_) | refine WBr_split (fun hc37 => ?_) (fun hc38 => ?_)
            · rw [if_pos (show y35.once = true by first | exact hc37 | simpa using hc37)] at h
              try simp only [go_sem, (show (x1.due.l.map (D.int .i64))[0]? = some ((D.int .i64) y19) from rd_map (D.int .i64) hy20), rd_pos hy36, rd_ge hy36, rd_map eListener hy36]
              obtain ⟨r39, hr40, h⟩ := Option.bind_eq_some_iff.1 h
              replace hr40 := dec_some hr40
              first | refine WVal_pc hr40 ?_ | (simp only [eT2_eq, eT3_eq, eT4_eq, eT5_eq] at hr40; refine WVal_pc hr40 ?_)
              try simp only [go_sem, (show (x1.due.l.map (D.int .i64))[0]? = some ((D.int .i64) y19) from rd_map (D.int .i64) hy20), rd_pos hy36, rd_ge hy36, rd_map eListener hy36]
              cases h
              exact ⟨rfl, Up.of (N := 88) (N' := 96) [] rfl rfl (by decide) (.set (.ptr' rfl) (.set (.ptr' rfl) (.set (.ptr' rfl) (.set (.ptr' rfl) (.set (.ptr' rfl) (.set (.ptr' rfl) RegsR.none)))))) (.set BlkR.refl_d (.set BlkR.refl_d (.set BlkR.refl_d (.set BlkR.refl_d (.set BlkR.refl_d (.set BlkR.refl_d (.set BlkR.refl_d (.set BlkR.refl_d (.set BlkR.refl_d (.set BlkR.refl_d BlksR.at))))))))))⟩
            · rw [if_neg (show ¬ y35.once = true by first | (rw [hc38]; exact Bool.false_ne_true) | simpa using hc38 | (simp at hc38 ⊢; omega))] at h
              try simp only [go_sem, (show (x1.due.l.map (D.int .i64))[0]? = some ((D.int .i64) y19) from rd_map (D.int .i64) hy20), rd_pos hy36, rd_ge hy36, rd_map eListener hy36]
              cases h
              exact ⟨rfl, Up.of (N := 88) (N' := 88) [] rfl rfl (by decide) (.set (.ptr' rfl) (.set (.ptr' rfl) (.set (.ptr' rfl) (.set (.ptr' rfl) (.set (.ptr' rfl) (.set (.ptr' rfl) RegsR.none)))))) (.set BlkR.refl_d (.set BlkR.refl_d (.set BlkR.refl_d (.set BlkR.refl_d (.set BlkR.refl_d (.set BlkR.refl_d (.set BlkR.refl_d (.set BlkR.refl_d (.set BlkR.refl_d (.set BlkR.refl_d BlksR.at))))))))))⟩
          · try simp only [go_sem, (show (x1.due.l.map (D.int .i64))[0]? = some ((D.int .i64) y19) from rd_map (D.int .i64) hy20), rd_pos hy36, rd_ge hy36, rd_map eListener hy36]
            obtain ⟨r43, hr44, h⟩ := Option.bind_eq_some_iff.1 h
            replace hr44 := dec_some hr44
            first | refine WVal_pc hr44 ?_ | (simp only [eT2_eq, eT3_eq, eT4_eq, eT5_eq] at hr44; refine WVal_pc hr44 ?_)
            try simp only [go_sem, (show (x1.due.l.map (D.int .i64))[0]? = some ((D.int .i64) y19) from rd_map (D.int .i64) hy20), rd_pos hy36, rd_ge hy36, rd_map eListener hy36]
            cases h
            refine ⟨rfl, by simp, Up.of (N := 45) (N' := 119) [] rfl rfl (by decide) ?_ ?_⟩
            · refine RegsR.set ?_ (RegsR.set ?_ (RegsR.set ?_ RegsR.none))
              all_goals (try simp only [go_sem, List.map_append, List.map_cons, List.map_nil, (show (x1.due.l.map (D.int .i64))[0]? = some ((D.int .i64) y19) from rd_map (D.int .i64) hy20), rd_pos hy36, rd_ge hy36, rd_map eListener hy36])
              all_goals (first | exact VR.d _ | exact VR.ptr' rfl | (simp only [eListeners, eListener, eEvent, eRun, eCall, eStep, eEffects, elisten_place, hc17, hc34]; exact VR.d _))
            · refine BlksR.set (show BlkR _ _ (Heap.get _ 43) from ?_) (BlksR.set (show BlkR _ _ (Heap.get _ 42) from ?_) (BlksR.set (show BlkR _ _ (Heap.get _ 17) from ?_) (BlksR.set (show BlkR _ _ (Heap.get _ 4) from ?_) (BlksR.set (show BlkR _ _ (Heap.get _ 3) from ?_) (BlksR.set (show BlkR _ _ (Heap.get _ 2) from ?_) (BlksR.set (show BlkR _ _ (Heap.get _ 0) from ?_) (BlksR.at)))))))
              all_goals (try simp only [go_sem, List.map_append, List.map_cons, List.map_nil, (show (x1.due.l.map (D.int .i64))[0]? = some ((D.int .i64) y19) from rd_map (D.int .i64) hy20), rd_pos hy36, rd_ge hy36, rd_map eListener hy36])
              all_goals (first | exact BlkR.refl_d | (simp only [eListeners, eListener, eEvent, eRun, eCall, eStep, eEffects, elisten_place, hc17, hc34]; exact BlkR.refl_d))
  · rw [if_neg (show ¬ (decide (0 < (x1.due.l.length : Int))) = true by first | (rw [hc18]; exact Bool.false_ne_true) | simpa using hc18 | (simp at hc18 ⊢; omega))] at h
    try simp only [go_sem]
    cases h
    exact ⟨rfl, by simp, Up.of (N := 45) (N' := 51) [] rfl rfl (by decide) (.set (.ptr' rfl) (.set (.ptr' rfl) (.set (.ptr' rfl) RegsR.none))) (.set BlkR.refl_d (.set BlkR.refl_d (.set BlkR.refl_d (.set BlkR.refl_d (.set BlkR.refl_d (.set BlkR.refl_d (.set BlkR.refl_d (.set BlkR.refl_d BlksR.at))))))))⟩
def L46_0_S (a0 : Listeners) (r11 : Sl (Listener)) (x0 : Run) : St := ⟨(((((Regs.none.set 2 (.ptr 0 0 0)).set 4 (.ptr 2 0 0)).set 5 (.ptr 3 0 0)).set 6 (.ptr 4 0 0)).set 10 (.ptr 17 0 0)), ((((((Heap.at 30).set 0 (some (.els 2 [.d (eListeners (⟨r11, a0.next⟩ : Listeners))] 0))).set 2 (some (.els 17 [.d (.agg [.str ([]), .bool false, .bool false, .bool false, .bool false, .bool false, .bool false, .bool false, .bool false, .int .u8 (0), .int .i64 (0), .int .i64 (0), .int .i64 (0), .list true [], .int .i64 (0), .list true [], .bool false])] 0))).set 3 (some (.els 2 [.d (.agg [.list true [], .int .i64 (0)])] 0))).set 4 (some (.els 3 [.d (.agg [.int .i64 (0), .int .i64 (0), .int .i64 (0)])] 0))).set 17 (some (.els 17 [.d (eRun x0)] 0)))⟩
def L46_0_F (a0 : Listeners) (r11 : Sl (Listener)) : ((Bool × Run × Listeners × Call)) → Ex × St := fun r => (.ret, ⟨(((((Regs.none.set 4 (.ptr 2 0 0)).set 5 (.ptr 3 0 0)).set 6 (.ptr 4 0 0)).set 7 (.d (.bool r.1))).set 8 (.d (.int .i64 (0)))), ((((Heap.at 30).set 2 (some (.els 17 [.d (eRun r.2.1)] 0))).set 3 (some (.els 2 [.d (eListeners r.2.2.1)] 0))).set 4 (some (.els 3 [.d (eCall r.2.2.2)] 0)))⟩)
noncomputable def L46_0_step (a0 : Listeners) (r11 : Sl (Listener)) (x0 : Run) : Option ((Run) ⊕ ((Bool × Run × Listeners × Call))) :=
  (loopV (L46_1_step a0 r11) x0).bind fun r45 =>
  match r45 with
  | (.inl q47) =>
    if (q47.turn == (IntKind.wrap .i64 (2 * (q47.path.l.length : Int)))) = true then
      some (.inr (false, q47, (⟨r11, a0.next⟩ : Listeners), (⟨0, 0, 0⟩ : Call)))
    else
      (dec (eT2 (D.int .i64) D.bool) (pc prog 91 [eRun q47, .int .i64 q47.turn])).bind fun r50 =>
      (rd q47.path.l r50.1).bind fun y52 =>
      if (!(y52.target == 0)) = true then
        if q47.event.stop = true then
          some (.inl { q47 with turn := (IntKind.wrap .i64 (q47.turn + 1)) })
        else
          (cut q47.path.l (0) (IntKind.wrap .i64 (r50.1 + 1))).bind fun y58 =>
          (dec (D.int .i64) (pc prog 92 [.list q47.path.n (y58.map eStep)])).bind fun r60 =>
          (dec (eT2 (eSl (D.int .i64)) (D.int .i64)) (pc prog 25 [eListeners (⟨r11, a0.next⟩ : Listeners), .int .i64 y52.item, .str q47.event.type_, .int .u8 (2), .bool r50.2])).bind fun r62 =>
          some (.inl { q47 with event := { q47.event with phase := 2, target := r60, related := y52.related, current := y52.item }, turn := (IntKind.wrap .i64 (q47.turn + 1)), due := r62.1 })
      else
        if r50.2 = true then
          if q47.event.stop = true then
            some (.inl { q47 with turn := (IntKind.wrap .i64 (q47.turn + 1)) })
          else
            (cut q47.path.l (0) (IntKind.wrap .i64 (r50.1 + 1))).bind fun y68 =>
            (dec (D.int .i64) (pc prog 92 [.list q47.path.n (y68.map eStep)])).bind fun r70 =>
            (dec (eT2 (eSl (D.int .i64)) (D.int .i64)) (pc prog 25 [eListeners (⟨r11, a0.next⟩ : Listeners), .int .i64 y52.item, .str q47.event.type_, .int .u8 (1), .bool r50.2])).bind fun r72 =>
            some (.inl { q47 with event := { q47.event with phase := 1, target := r70, related := y52.related, current := y52.item }, turn := (IntKind.wrap .i64 (q47.turn + 1)), due := r72.1 })
        else
          if (bif (!q47.event.bubbles) then true else q47.event.stop) = true then
            some (.inl { q47 with turn := (IntKind.wrap .i64 (q47.turn + 1)) })
          else
            (cut q47.path.l (0) (IntKind.wrap .i64 (r50.1 + 1))).bind fun y76 =>
            (dec (D.int .i64) (pc prog 92 [.list q47.path.n (y76.map eStep)])).bind fun r78 =>
            (dec (eT2 (eSl (D.int .i64)) (D.int .i64)) (pc prog 25 [eListeners (⟨r11, a0.next⟩ : Listeners), .int .i64 y52.item, .str q47.event.type_, .int .u8 (3), .bool r50.2])).bind fun r80 =>
            some (.inl { q47 with event := { q47.event with phase := 3, target := r78, related := y52.related, current := y52.item }, turn := (IntKind.wrap .i64 (q47.turn + 1)), due := r80.1 })
  | (.inr q87) =>
    some (.inr (true, q87.1, q87.2.1, q87.2.2))
theorem L46_0_ok (a0 : Listeners) (r11 : Sl (Listener)) (x0 : Run) (o : (Run) ⊕ ((Bool × Run × Listeners × Call))) (h : L46_0_step a0 r11 x0 = some o) : Wp prog c46B0 (L46_0_S a0 r11 x0) (LPost 0 (L46_0_S a0 r11) (L46_0_F a0 r11) o) := by
  unfold L46_0_step at h
  delta c46B0 L46_0_S
  try simp only [go_sem]
  refine WVal_inl (fn := c77) rfl rfl ?_
  delta c77
  try simp only [go_sem]
  obtain ⟨r45, hl46, h⟩ := Option.bind_eq_some_iff.1 h
  refine Wp.loopR locs (n := 41) (a := c77B0) rfl (L46_1_S a0 r11) (L46_1_F a0 r11) (L46_1_ok a0 r11) hl46 ?_ (by (repeat (first | refine Clo.block ?_ | refine Clo.seq locs rfl ?_)); refine Clo.inl locs (n' := 0) rfl rfl rfl ?_ ?_ (show 30 + 11 ≤ _ from by decide) (by decide) ?_; ((repeat (first | exact SelfR.no | exact SelfR.none | refine SelfR.set ?_ ?_ | refine SelfR.args ?_ | exact SelfL.nil | refine SelfL.cons ?_ ?_ | exact Self.d | exact Self.undef | exact Self.rp | exact Self.ptr (by decide) | exact Self.sl (by decide) | exact Self.mb (by decide) | exact Self.map (by decide) | exact Self.yld (by decide) | refine Self.clo ?_ ?_ | refine Self.ofCells ?_ | refine Self.agg ?_ | refine Self.tuple ?_ | refine Self.bif ?_ ?_)); (repeat (first | exact SelfR.no | exact SelfR.none | refine SelfR.set ?_ ?_ | refine SelfR.args ?_ | exact SelfL.nil | refine SelfL.cons ?_ ?_ | exact Self.d | exact Self.undef | exact Self.rp | exact Self.ptr (by decide) | exact Self.sl (by decide) | exact Self.mb (by decide) | exact Self.map (by decide) | exact Self.yld (by decide) | refine Self.clo ?_ ?_ | refine Self.ofCells ?_ | refine Self.agg ?_ | refine Self.tuple ?_ | refine Self.bif ?_ ?_))); (repeat (first | refine Clo.block ?_ | refine Clo.seq locs rfl ?_)); (first | exact Clo.ret | exact Clo.lpost | exact Clo.cpost)) ?_
  · show Up 41 (L46_1_S a0 r11 x0) _
    delta L46_1_S
    exact Up.of (N := 45) (N' := 45) [] rfl rfl (by decide) (.set (.ptr' rfl) (.set (.ptr' rfl) (.set (.ptr' rfl) (.set (.ptr' rfl) RegsR.none)))) (.set BlkR.refl_d (.set BlkR.refl_d (.set BlkR.refl_d (.set BlkR.refl_d (.set BlkR.refl_d (.set BlkR.refl_d (.set BlkR.refl_d (.set BlkR.refl_d BlksR.at))))))))
  · rcases r45 with (q47 | q87)
    · dsimp only at h
      dsimp only [L46_1_F]
      try simp only [go_sem]
      first | refine WBr_splitN (fun hc48 => ?_) (fun hc49 => ?_) | refine WBr_split (fun hc48 => ?_) (fun hc49 => ?_)
      · rw [if_pos (show (q47.turn == (IntKind.wrap .i64 (2 * (q47.path.l.length : Int)))) = true by first | exact hc48 | simpa using hc48)] at h
        try simp only [go_sem]
        cases h
        refine ⟨rfl, by simp, Up.of (N := 30) (N' := 66) [] rfl rfl (by decide) ?_ ?_⟩
        · refine RegsR.set ?_ (RegsR.set ?_ (RegsR.set ?_ (RegsR.set ?_ (RegsR.set ?_ RegsR.none))))
          all_goals (try simp only [go_sem, List.map_append, List.map_cons, List.map_nil])
          all_goals (first | exact VR.d _ | exact VR.ptr' rfl | (simp only [eListeners, eListener, eEvent, eRun, eCall, eStep, eEffects, elisten_place, hc48]; exact VR.d _))
        · refine BlksR.set (show BlkR _ _ (Heap.get _ 4) from ?_) (BlksR.set (show BlkR _ _ (Heap.get _ 3) from ?_) (BlksR.set (show BlkR _ _ (Heap.get _ 2) from ?_) (BlksR.at)))
          all_goals (try simp only [go_sem, List.map_append, List.map_cons, List.map_nil])
          all_goals (first | exact BlkR.refl_d | (simp only [eListeners, eListener, eEvent, eRun, eCall, eStep, eEffects, elisten_place, hc48]; exact BlkR.refl_d))
      · rw [if_neg (show ¬ (q47.turn == (IntKind.wrap .i64 (2 * (q47.path.l.length : Int)))) = true by first | (rw [hc49]; exact Bool.false_ne_true) | simpa using hc49 | (simp at hc49 ⊢; omega))] at h
        try simp only [go_sem]
        refine WVal_inl (fn := c78) rfl rfl ?_
        delta c78
        try simp only [go_sem]
        obtain ⟨r50, hr51, h⟩ := Option.bind_eq_some_iff.1 h
        replace hr51 := dec_some hr51
        first | refine WVal_pc hr51 ?_ | (simp only [eT2_eq, eT3_eq, eT4_eq, eT5_eq] at hr51; refine WVal_pc hr51 ?_)
        try simp only [go_sem]
        obtain ⟨y52, hy53, h⟩ := Option.bind_eq_some_iff.1 h
        try simp only [go_sem, rd_pos hy53, rd_ge hy53, rd_map eStep hy53]
        first | refine WBr_splitN (fun hc54 => ?_) (fun hc55 => ?_) | refine WBr_split (fun hc54 => ?_) (fun hc55 => ?_)
        · rw [if_pos (show (!(y52.target == 0)) = true by first | exact hc54 | simpa using hc54)] at h
          try simp only [go_sem, rd_pos hy53, rd_ge hy53, rd_map eStep hy53]
          first | refine WBr_splitN (fun hc56 => ?_) (fun hc57 => ?_) | refine WBr_split (fun hc56 => ?_) (fun hc57 => ?_)
          · rw [if_pos (show q47.event.stop = true by first | exact hc56 | simpa using hc56)] at h
            try simp only [go_sem, rd_pos hy53, rd_ge hy53, rd_map eStep hy53]
            cases h
            exact ⟨rfl, Up.of (N := 30) (N' := 114) [] rfl rfl (by decide) (.set (.ptr' rfl) (.set (.ptr' rfl) (.set (.ptr' rfl) (.set (.ptr' rfl) (.set (.ptr' rfl) RegsR.none))))) (.set BlkR.refl_d (.set BlkR.refl_d (.set BlkR.refl_d (.set BlkR.refl_d (.set BlkR.refl_d BlksR.at)))))⟩
          · rw [if_neg (show ¬ q47.event.stop = true by first | (rw [hc57]; exact Bool.false_ne_true) | simpa using hc57 | (simp at hc57 ⊢; omega))] at h
            try simp only [go_sem, rd_pos hy53, rd_ge hy53, rd_map eStep hy53]
            obtain ⟨y58, hy59, h⟩ := Option.bind_eq_some_iff.1 h
            refine WVal_slice (e := eStep) (n := q47.path.n) (l := q47.path.l) (sz := 6) (lo := none) (hi := (some (IntKind.wrap .i64 (r50.1 + 1)))) (by simp only [go_sem, rd_pos hy53, rd_ge hy53, rd_map eStep hy53, optI]; first | done | rfl | (split <;> rfl) | (split <;> split <;> rfl)) (by decide) (fun _ => rfl) hy59 ?_
            try simp only [go_sem, rd_pos hy53, rd_ge hy53, rd_map eStep hy53]
            obtain ⟨r60, hr61, h⟩ := Option.bind_eq_some_iff.1 h
            replace hr61 := dec_some hr61
            first | refine WVal_pc hr61 ?_ | (simp only [eT2_eq, eT3_eq, eT4_eq, eT5_eq] at hr61; refine WVal_pc hr61 ?_)
            try simp only [go_sem, rd_pos hy53, rd_ge hy53, rd_map eStep hy53]
            obtain ⟨r62, hr63, h⟩ := Option.bind_eq_some_iff.1 h
            replace hr63 := dec_some hr63
            first | refine WVal_pc hr63 ?_ | (simp only [eT2_eq, eT3_eq, eT4_eq, eT5_eq] at hr63; refine WVal_pc hr63 ?_)
            try simp only [go_sem, rd_pos hy53, rd_ge hy53, rd_map eStep hy53]
            cases h
            exact ⟨rfl, Up.of (N := 30) (N' := 165) [] rfl rfl (by decide) (.set (.ptr' rfl) (.set (.ptr' rfl) (.set (.ptr' rfl) (.set (.ptr' rfl) (.set (.ptr' rfl) RegsR.none))))) (.set BlkR.refl_d (.set BlkR.refl_d (.set BlkR.refl_d (.set BlkR.refl_d (.set BlkR.refl_d BlksR.at)))))⟩
        · rw [if_neg (show ¬ (!(y52.target == 0)) = true by first | (rw [hc55]; exact Bool.false_ne_true) | simpa using hc55 | (simp at hc55 ⊢; omega))] at h
          try simp only [go_sem, rd_pos hy53, rd_ge hy53, rd_map eStep hy53]
          first | refine WBr_splitN (fun hc64 => ?_) (fun hc65 => ?_) | refine WBr_split (fun hc64 => ?_) (fun hc65 => ?_)
          · rw [if_pos (show r50.2 = true by first | exact hc64 | simpa using hc64)] at h
            try simp only [go_sem, rd_pos hy53, rd_ge hy53, rd_map eStep hy53]
            first | refine WBr_splitN (fun hc66 => ?_) (fun hc67 => ?_) | refine WBr_split (fun hc66 => ?_) (fun hc67 => ?_)
            · rw [if_pos (show q47.event.stop = true by first | exact hc66 | simpa using hc66)] at h
              try simp only [go_sem, rd_pos hy53, rd_ge hy53, rd_map eStep hy53]
              cases h
              exact ⟨rfl, Up.of (N := 30) (N' := 116) [] rfl rfl (by decide) (.set (.ptr' rfl) (.set (.ptr' rfl) (.set (.ptr' rfl) (.set (.ptr' rfl) (.set (.ptr' rfl) RegsR.none))))) (.set BlkR.refl_d (.set BlkR.refl_d (.set BlkR.refl_d (.set BlkR.refl_d (.set BlkR.refl_d BlksR.at)))))⟩
            · rw [if_neg (show ¬ q47.event.stop = true by first | (rw [hc67]; exact Bool.false_ne_true) | simpa using hc67 | (simp at hc67 ⊢; omega))] at h
              try simp only [go_sem, rd_pos hy53, rd_ge hy53, rd_map eStep hy53]
              obtain ⟨y68, hy69, h⟩ := Option.bind_eq_some_iff.1 h
              refine WVal_slice (e := eStep) (n := q47.path.n) (l := q47.path.l) (sz := 6) (lo := none) (hi := (some (IntKind.wrap .i64 (r50.1 + 1)))) (by simp only [go_sem, rd_pos hy53, rd_ge hy53, rd_map eStep hy53, optI]; first | done | rfl | (split <;> rfl) | (split <;> split <;> rfl)) (by decide) (fun _ => rfl) hy69 ?_
              try simp only [go_sem, rd_pos hy53, rd_ge hy53, rd_map eStep hy53]
              obtain ⟨r70, hr71, h⟩ := Option.bind_eq_some_iff.1 h
              replace hr71 := dec_some hr71
              first | refine WVal_pc hr71 ?_ | (simp only [eT2_eq, eT3_eq, eT4_eq, eT5_eq] at hr71; refine WVal_pc hr71 ?_)
              try simp only [go_sem, rd_pos hy53, rd_ge hy53, rd_map eStep hy53]
              obtain ⟨r72, hr73, h⟩ := Option.bind_eq_some_iff.1 h
              replace hr73 := dec_some hr73
              first | refine WVal_pc hr73 ?_ | (simp only [eT2_eq, eT3_eq, eT4_eq, eT5_eq] at hr73; refine WVal_pc hr73 ?_)
              try simp only [go_sem, rd_pos hy53, rd_ge hy53, rd_map eStep hy53]
              cases h
              exact ⟨rfl, Up.of (N := 30) (N' := 167) [] rfl rfl (by decide) (.set (.ptr' rfl) (.set (.ptr' rfl) (.set (.ptr' rfl) (.set (.ptr' rfl) (.set (.ptr' rfl) RegsR.none))))) (.set BlkR.refl_d (.set BlkR.refl_d (.set BlkR.refl_d (.set BlkR.refl_d (.set BlkR.refl_d BlksR.at)))))⟩
          · rw [if_neg (show ¬ r50.2 = true by first | (rw [hc65]; exact Bool.false_ne_true) | simpa using hc65 | (simp at hc65 ⊢; omega))] at h
            try simp only [go_sem, rd_pos hy53, rd_ge hy53, rd_map eStep hy53]
            refine WGuard_pure (v := .ptr 17 0 0) (fun hb86 => by skip; simp only [go_sem, rd_pos hy53, rd_ge hy53, rd_map eStep hy53, hc49, hc55, hc65, hb86]) ?_
            try simp only [go_sem, rd_pos hy53, rd_ge hy53, rd_map eStep hy53]
            refine WGuard_pure (v := .ptr 17 0 0) (fun hb85 => by skip; simp only [go_sem, rd_pos hy53, rd_ge hy53, rd_map eStep hy53, hc49, hc55, hc65, hb85]) ?_
            try simp only [go_sem, rd_pos hy53, rd_ge hy53, rd_map eStep hy53]
            refine WGuard_pure (v := .ptr 17 0 0) (fun hb84 => by skip; simp only [go_sem, rd_pos hy53, rd_ge hy53, rd_map eStep hy53, hc49, hc55, hc65, hb84]) ?_
            try simp only [go_sem, rd_pos hy53, rd_ge hy53, rd_map eStep hy53]
            refine WGuard_pure (v := .ptr 17 0 5) (fun hb83 => by skip; simp only [go_sem, rd_pos hy53, rd_ge hy53, rd_map eStep hy53, hc49, hc55, hc65, hb83]) ?_
            try simp only [go_sem, rd_pos hy53, rd_ge hy53, rd_map eStep hy53]
            refine WGuard_pure (v := .d (.bool q47.event.stop)) (fun hb82 => by skip; simp only [go_sem, rd_pos hy53, rd_ge hy53, rd_map eStep hy53, hc49, hc55, hc65, hb82]) ?_
            try simp only [go_sem, rd_pos hy53, rd_ge hy53, rd_map eStep hy53]
            first | refine WBr_splitN (fun hc74 => ?_) (fun hc75 => ?_) | refine WBr_split (fun hc74 => ?_) (fun hc75 => ?_)
            · rw [if_pos (show (bif (!q47.event.bubbles) then true else q47.event.stop) = true by first | exact hc74 | simpa using hc74)] at h
              try simp only [go_sem, rd_pos hy53, rd_ge hy53, rd_map eStep hy53]
              cases h
              exact ⟨rfl, Up.of (N := 30) (N' := 115) [] rfl rfl (by decide) (.set (.ptr' rfl) (.set (.ptr' rfl) (.set (.ptr' rfl) (.set (.ptr' rfl) (.set (.ptr' rfl) RegsR.none))))) (.set BlkR.refl_d (.set BlkR.refl_d (.set BlkR.refl_d (.set BlkR.refl_d (.set BlkR.refl_d BlksR.at)))))⟩
            · rw [if_neg (show ¬ (bif (!q47.event.bubbles) then true else q47.event.stop) = true by first | (rw [hc75]; exact Bool.false_ne_true) | simpa using hc75 | (simp at hc75 ⊢; omega))] at h
              try simp only [go_sem, rd_pos hy53, rd_ge hy53, rd_map eStep hy53]
              obtain ⟨y76, hy77, h⟩ := Option.bind_eq_some_iff.1 h
              refine WVal_slice (e := eStep) (n := q47.path.n) (l := q47.path.l) (sz := 6) (lo := none) (hi := (some (IntKind.wrap .i64 (r50.1 + 1)))) (by simp only [go_sem, rd_pos hy53, rd_ge hy53, rd_map eStep hy53, optI]; first | done | rfl | (split <;> rfl) | (split <;> split <;> rfl)) (by decide) (fun _ => rfl) hy77 ?_
              try simp only [go_sem, rd_pos hy53, rd_ge hy53, rd_map eStep hy53]
              obtain ⟨r78, hr79, h⟩ := Option.bind_eq_some_iff.1 h
              replace hr79 := dec_some hr79
              first | refine WVal_pc hr79 ?_ | (simp only [eT2_eq, eT3_eq, eT4_eq, eT5_eq] at hr79; refine WVal_pc hr79 ?_)
              try simp only [go_sem, rd_pos hy53, rd_ge hy53, rd_map eStep hy53]
              obtain ⟨r80, hr81, h⟩ := Option.bind_eq_some_iff.1 h
              replace hr81 := dec_some hr81
              first | refine WVal_pc hr81 ?_ | (simp only [eT2_eq, eT3_eq, eT4_eq, eT5_eq] at hr81; refine WVal_pc hr81 ?_)
              try simp only [go_sem, rd_pos hy53, rd_ge hy53, rd_map eStep hy53]
              cases h
              exact ⟨rfl, Up.of (N := 30) (N' := 166) [] rfl rfl (by decide) (.set (.ptr' rfl) (.set (.ptr' rfl) (.set (.ptr' rfl) (.set (.ptr' rfl) (.set (.ptr' rfl) RegsR.none))))) (.set BlkR.refl_d (.set BlkR.refl_d (.set BlkR.refl_d (.set BlkR.refl_d (.set BlkR.refl_d BlksR.at)))))⟩
    · dsimp only at h
      dsimp only [L46_1_F]
      try simp only [go_sem]
      cases h
      exact ⟨rfl, by simp, Up.of (N := 30) (N' := 54) [] rfl rfl (by decide) (.set (.d _) (.set (.d _) (.set (.ptr' rfl) (.set (.ptr' rfl) (.set (.ptr' rfl) RegsR.none))))) (.set BlkR.refl_d (.set BlkR.refl_d (.set BlkR.refl_d BlksR.at)))⟩
noncomputable def P46 (a0 : Listeners) (a1 : Run) : Option (Run × Listeners × Call × Bool × Int) :=
  (dec (D.int .i64) (pc prog 21 [eListeners a0])).bind fun r1 =>
  if (!(r1 == 0)) = true then
    some ((⟨⟨[], false, false, false, false, false, false, false, false, 0, 0, 0, 0⟩, ⟨true, []⟩, 0, ⟨true, []⟩, false⟩ : Run), (⟨⟨true, []⟩, 0⟩ : Listeners), (⟨0, 0, 0⟩ : Call), false, r1)
  else
    (dec D.bool (pc prog 73 [eRun a1])).bind fun r5 =>
    if (!r5) = true then
      some ((⟨⟨[], false, false, false, false, false, false, false, false, 0, 0, 0, 0⟩, ⟨true, []⟩, 0, ⟨true, []⟩, false⟩ : Run), (⟨⟨true, []⟩, 0⟩ : Listeners), (⟨0, 0, 0⟩ : Call), false, 15)
    else
      (dec eRun (pc prog 75 [eRun a1])).bind fun r9 =>
      (dec (eSl eListener) (pc prog 76 [.list a0.list.n (a0.list.l.map eListener)])).bind fun r11 =>
      (if r9.event.stopNow = true then
        some { r9 with event := { r9.event with passive := false }, due := ⟨true, []⟩ }
      else
        some { r9 with event := { r9.event with passive := false } } : Option ((Run))).bind fun r15 =>
      (loopV (L46_0_step a0 r11) r15).bind fun r88 =>
      some (r88.2.1, r88.2.2.1, r88.2.2.2, r88.1, 0)
theorem ok46 (a0 : Listeners) (a1 : Run) (r : Run × Listeners × Call × Bool × Int) (h : P46 a0 a1 = some r) : pc prog 46 [eListeners a0, eRun a1] = some ((eT5 eRun eListeners eCall D.bool (D.int .i64)) r) := by
  unfold P46 at h
  refine pc_of (fn := c46) rfl rfl ?_
  delta c46
  try simp only [go_sem]
  obtain ⟨r1, hr2, h⟩ := Option.bind_eq_some_iff.1 h
  replace hr2 := dec_some hr2
  first | refine WVal_pc hr2 ?_ | (simp only [eT2_eq, eT3_eq, eT4_eq, eT5_eq] at hr2; refine WVal_pc hr2 ?_)
  try simp only [go_sem]
  first | refine WBr_splitN (fun hc3 => ?_) (fun hc4 => ?_) | refine WBr_split (fun hc3 => ?_) (fun hc4 => ?_)
  · rw [if_pos (show (!(r1 == 0)) = true by first | exact hc3 | simpa using hc3)] at h
    try simp only [go_sem]
    cases h
    first | rfl | (simp only [go_sem]; done) | (simp only [go_sem]; rfl) | (simp [eListeners, eListener, eEvent, eRun, eCall, eStep, eEffects, elisten_place, hc3]; done)
  · rw [if_neg (show ¬ (!(r1 == 0)) = true by first | (rw [hc4]; exact Bool.false_ne_true) | simpa using hc4 | (simp at hc4 ⊢; omega))] at h
    try simp only [go_sem]
    obtain ⟨r5, hr6, h⟩ := Option.bind_eq_some_iff.1 h
    replace hr6 := dec_some hr6
    first | refine WVal_pc hr6 ?_ | (simp only [eT2_eq, eT3_eq, eT4_eq, eT5_eq] at hr6; refine WVal_pc hr6 ?_)
    try simp only [go_sem]
    first | refine WBr_splitN (fun hc7 => ?_) (fun hc8 => ?_) | refine WBr_split (fun hc7 => ?_) (fun hc8 => ?_)
    · rw [if_pos (show (!r5) = true by first | exact hc7 | simpa using hc7)] at h
      try simp only [go_sem]
      cases h
      first | rfl | (simp only [go_sem]; done) | (simp only [go_sem]; rfl) | (simp [eListeners, eListener, eEvent, eRun, eCall, eStep, eEffects, elisten_place, hc4, hc7]; done)
    · rw [if_neg (show ¬ (!r5) = true by first | (rw [hc8]; exact Bool.false_ne_true) | simpa using hc8 | (simp at hc8 ⊢; omega))] at h
      try simp only [go_sem]
      obtain ⟨r9, hr10, h⟩ := Option.bind_eq_some_iff.1 h
      replace hr10 := dec_some hr10
      first | refine WVal_pc hr10 ?_ | (simp only [eT2_eq, eT3_eq, eT4_eq, eT5_eq] at hr10; refine WVal_pc hr10 ?_)
      try simp only [go_sem]
      obtain ⟨r11, hr12, h⟩ := Option.bind_eq_some_iff.1 h
      replace hr12 := dec_some hr12
      first | refine WVal_pc hr12 ?_ | (simp only [eT2_eq, eT3_eq, eT4_eq, eT5_eq] at hr12; refine WVal_pc hr12 ?_)
      try simp only [go_sem]
      obtain ⟨r15, hl16, h⟩ := Option.bind_eq_some_iff.1 h
      refine WBr.cut (n := 0) .normal ⟨(((((Regs.none.set 2 (.ptr 0 0 0)).set 4 (.ptr 2 0 0)).set 5 (.ptr 3 0 0)).set 6 (.ptr 4 0 0)).set 10 (.ptr 17 0 0)), ((((((Heap.at 30).set 0 (some (.els 2 [.d (eListeners (⟨r11, a0.next⟩ : Listeners))] 0))).set 2 (some (.els 17 [.d (.agg [.str ([]), .bool false, .bool false, .bool false, .bool false, .bool false, .bool false, .bool false, .bool false, .int .u8 (0), .int .i64 (0), .int .i64 (0), .int .i64 (0), .list true [], .int .i64 (0), .list true [], .bool false])] 0))).set 3 (some (.els 2 [.d (.agg [.list true [], .int .i64 (0)])] 0))).set 4 (some (.els 3 [.d (.agg [.int .i64 (0), .int .i64 (0), .int .i64 (0)])] 0))).set 17 (some (.els 17 [.d (eRun r15)] 0)))⟩ ?_ (by (repeat (first | refine Clo.block ?_ | refine Clo.seq locs rfl ?_)); (first | exact Clo.ret | exact Clo.lpost | exact Clo.cpost)) ?_
      · replace h := hl16
        first | refine WBr_splitN (fun hc13 => ?_) (fun hc14 => ?_) | refine WBr_split (fun hc13 => ?_) (fun hc14 => ?_)
        · rw [if_pos (show r9.event.stopNow = true by first | exact hc13 | simpa using hc13)] at h
          try simp only [go_sem]
          cases h
          exact ⟨rfl, Up.of (N := 30) (N' := 32) [] rfl rfl (by decide) (.set (.ptr' rfl) (.set (.ptr' rfl) (.set (.ptr' rfl) (.set (.ptr' rfl) (.set (.ptr' rfl) RegsR.none))))) (.set BlkR.refl_d (.set BlkR.refl_d (.set BlkR.refl_d (.set BlkR.refl_d (.set BlkR.refl_d BlksR.at)))))⟩
        · rw [if_neg (show ¬ r9.event.stopNow = true by first | (rw [hc14]; exact Bool.false_ne_true) | simpa using hc14 | (simp at hc14 ⊢; omega))] at h
          try simp only [go_sem]
          cases h
          exact ⟨rfl, Up.of (N := 30) (N' := 30) [] rfl rfl (by decide) (.set (.ptr' rfl) (.set (.ptr' rfl) (.set (.ptr' rfl) (.set (.ptr' rfl) (.set (.ptr' rfl) RegsR.none))))) (.set BlkR.refl_d (.set BlkR.refl_d (.set BlkR.refl_d (.set BlkR.refl_d (.set BlkR.refl_d BlksR.at)))))⟩
      · try simp only [go_sem]
        obtain ⟨r88, hl89, h⟩ := Option.bind_eq_some_iff.1 h
        refine Wp.loopR locs (n := 0) (a := c46B0) rfl (L46_0_S a0 r11) (L46_0_F a0 r11) (L46_0_ok a0 r11) hl89 ?_ (by (repeat (first | refine Clo.block ?_ | refine Clo.seq locs rfl ?_)); (first | exact Clo.ret | exact Clo.lpost | exact Clo.cpost)) ?_
        · show Up 0 (L46_0_S a0 r11 r15) _
          delta L46_0_S
          exact Up.of (N := 30) (N' := 30) [] rfl rfl (by decide) (.set (.ptr' rfl) (.set (.ptr' rfl) (.set (.ptr' rfl) (.set (.ptr' rfl) (.set (.ptr' rfl) RegsR.none))))) (.set BlkR.refl_d (.set BlkR.refl_d (.set BlkR.refl_d (.set BlkR.refl_d (.set BlkR.refl_d BlksR.at)))))
        · dsimp only [L46_0_F]
          try simp only [go_sem]
          cases h
          first | rfl | (simp only [go_sem]; done) | (simp only [go_sem]; rfl) | (simp [eListeners, eListener, eEvent, eRun, eCall, eStep, eEffects, elisten_place, hc4, hc8]; done)
def L92_0_S (a0 : Sl (Step)) (x0 : Int) : St := ⟨(((Regs.none.set 0 (.yld 7)).set 1 (.ptr 3 0 0)).set 3 (.d (.int .i64 x0))), ((((Heap.at 12).set 0 (some (.els 1 [.d (.int .i64 (0))] 0))).set 3 (some (.els 1 [.d (.list a0.n (a0.l.map eStep))] 0))).set 7 (some (.loop ⟨(Regs.none.set 2 (.ptr 0 0 0)), [7, 8], c92B0, c92B1, .ready, none⟩)))⟩
def L92_0_F (a0 : Sl (Step)) : ((Unit) ⊕ (Int)) → Ex × St := fun r => match r with
  | (.inl r) => (.exit 0, ⟨Regs.none, ((((Heap.at 12).set 0 (some (.els 1 [.d (.int .i64 (0))] 0))).set 3 (some (.els 1 [.d (.list a0.n (a0.l.map eStep))] 0))).set 7 (some (.loop ⟨(Regs.none.set 2 (.ptr 0 0 0)), [7, 8], c92B0, c92B1, .ready, none⟩)))⟩)
  | (.inr r) => (.ret, ⟨Regs.none, ((((Heap.at 12).set 0 (some (.els 1 [.d (.int .i64 r)] 0))).set 3 (some (.els 1 [.d (.list a0.n (a0.l.map eStep))] 0))).set 7 (some (.loop ⟨(Regs.none.set 2 (.ptr 0 0 0)), [7, 8], c92B0, c92B1, .done, (some .ret)⟩)))⟩)
noncomputable def L92_0_step (a0 : Sl (Step)) (x0 : Int) : Option ((Int) ⊕ ((Unit) ⊕ (Int))) :=
  if (decide (0 ≤ x0)) = true then
    (rd a0.l x0).bind fun y3 =>
    if (!(y3.target == 0)) = true then
      some (.inr (.inr y3.target))
    else
      some (.inl (IntKind.wrap .i64 (x0 - 1)))
  else
    some (.inr (.inl ()))
theorem L92_0_ok (a0 : Sl (Step)) (x0 : Int) (o : (Int) ⊕ ((Unit) ⊕ (Int))) (h : L92_0_step a0 x0 = some o) : Wp prog c98B0 (L92_0_S a0 x0) (LPost 8 (L92_0_S a0) (L92_0_F a0) o) := by
  unfold L92_0_step at h
  delta c98B0 L92_0_S
  try simp only [go_sem]
  first | refine WBr_splitN (fun hc1 => ?_) (fun hc2 => ?_) | refine WBr_split (fun hc1 => ?_) (fun hc2 => ?_)
  · rw [if_pos (show (decide (0 ≤ x0)) = true by first | exact hc1 | simpa using hc1)] at h
    try simp only [go_sem]
    obtain ⟨y3, hy4, h⟩ := Option.bind_eq_some_iff.1 h
    try simp only [go_sem, rd_pos hy4, rd_ge hy4, rd_map eStep hy4]
    refine WVal_yld (by simp only [go_sem, rd_pos hy4, rd_ge hy4, rd_map eStep hy4]; rfl) rfl ?_
    delta c92B0
    try simp only [go_sem, rd_pos hy4, rd_ge hy4, rd_map eStep hy4]
    delta c92B1
    try simp only [go_sem, rd_pos hy4, rd_ge hy4, rd_map eStep hy4]
    first | refine WBr_splitN (fun hc5 => ?_) (fun hc6 => ?_) | refine WBr_split (fun hc5 => ?_) (fun hc6 => ?_)
    · rw [if_pos (show (!(y3.target == 0)) = true by first | exact hc5 | simpa using hc5)] at h
      try simp only [go_sem, rd_pos hy4, rd_ge hy4, rd_map eStep hy4]
      cases h
      exact ⟨rfl, by simp, Up.of (N := 12) (N' := 30) [] rfl rfl (by decide) RegsR.none (.set (BlkR.loop (.set (.ptr' rfl) RegsR.none) rfl rfl) (.set BlkR.refl_d (.set BlkR.refl_d BlksR.at)))⟩
    · rw [if_neg (show ¬ (!(y3.target == 0)) = true by first | (rw [hc6]; exact Bool.false_ne_true) | simpa using hc6 | (simp at hc6 ⊢; omega))] at h
      try simp only [go_sem, rd_pos hy4, rd_ge hy4, rd_map eStep hy4]
      cases h
      exact ⟨rfl, Up.of (N := 12) (N' := 30) [] rfl rfl (by decide) (.set (.d _) (.set (.ptr' rfl) (.set (.yld' rfl) RegsR.none))) (.set (BlkR.loop (.set (.ptr' rfl) RegsR.none) rfl rfl) (.set BlkR.refl_d (.set BlkR.refl_d BlksR.at)))⟩
  · rw [if_neg (show ¬ (decide (0 ≤ x0)) = true by first | (rw [hc2]; exact Bool.false_ne_true) | simpa using hc2 | (simp at hc2 ⊢; omega))] at h
    try simp only [go_sem]
    cases h
    exact ⟨rfl, by simp, Up.of (N := 12) (N' := 14) [] rfl rfl (by decide) RegsR.none (.set (BlkR.loop (.set (.ptr' rfl) RegsR.none) rfl rfl) (.set BlkR.refl_d (.set BlkR.refl_d BlksR.at)))⟩
noncomputable def P92 (a0 : Sl (Step)) : Option (Int) :=
  (loopV (L92_0_step a0) (IntKind.wrap .i64 ((a0.l.length : Int) - 1))).bind fun r7 =>
  match r7 with
  | (.inl q9) =>
    some (0)
  | (.inr q10) =>
    some q10
theorem ok92 (a0 : Sl (Step)) (r : Int) (h : P92 a0 = some r) : pc prog 92 [.list a0.n (a0.l.map eStep)] = some ((D.int .i64) r) := by
  unfold P92 at h
  refine pc_of (fn := c92) rfl rfl ?_
  delta c92
  try simp only [go_sem]
  refine WVal_inl (fn := c96) rfl rfl ?_
  delta c96
  try simp only [go_sem]
  refine Wp.rfuncC (k := 98) (fn := c98) (first := []) (cap := [.ptr 3 0 0]) (by simp only [go_sem]) rfl rfl ?_
  delta c98
  try simp only [go_sem]
  obtain ⟨r7, hl8, h⟩ := Option.bind_eq_some_iff.1 h
  refine Wp.loopR locs (n := 8) (a := c98B0) rfl (L92_0_S a0) (L92_0_F a0) (L92_0_ok a0) hl8 ?_ (by (repeat (first | refine Clo.block ?_ | refine Clo.seq locs rfl ?_)); refine Clo.rf (n' := 0) ?_ (by decide) (by decide) ?_; ((repeat (first | exact SelfR.no | exact SelfR.none | refine SelfR.set ?_ ?_ | refine SelfR.args ?_ | exact SelfL.nil | refine SelfL.cons ?_ ?_ | exact Self.d | exact Self.undef | exact Self.rp | exact Self.ptr (by decide) | exact Self.sl (by decide) | exact Self.mb (by decide) | exact Self.map (by decide) | exact Self.yld (by decide) | refine Self.clo ?_ ?_ | refine Self.ofCells ?_ | refine Self.agg ?_ | refine Self.tuple ?_ | refine Self.bif ?_ ?_))); (repeat (first | refine Clo.block ?_ | refine Clo.seq locs rfl ?_)); (first | exact Clo.ret | exact Clo.lpost | exact Clo.cpost)) ?_
  · show Up 8 (L92_0_S a0 (IntKind.wrap .i64 ((a0.l.length : Int) - 1))) _
    delta L92_0_S
    exact Up.of (N := 12) (N' := 12) [] rfl rfl (by decide) (.set (.d _) (.set (.ptr' rfl) (.set (.yld' rfl) RegsR.none))) (.set (BlkR.loop (.set (.ptr' rfl) RegsR.none) rfl rfl) (.set BlkR.refl_d (.set BlkR.refl_d BlksR.at)))
  · rcases r7 with (q9 | q10)
    · dsimp only at h
      dsimp only [L92_0_F]
      try simp only [go_sem]
      cases h
      first | rfl | (simp only [go_sem]; done) | (simp only [go_sem]; rfl) | (simp [eListeners, eListener, eEvent, eRun, eCall, eStep, eEffects, elisten_place]; done)
    · dsimp only at h
      dsimp only [L92_0_F]
      try simp only [go_sem]
      cases h
      first | rfl | (simp only [go_sem]; done) | (simp only [go_sem]; rfl) | (simp [eListeners, eListener, eEvent, eRun, eCall, eStep, eEffects, elisten_place]; done)
def L20_0_F (a0 : Listeners) (a1 : Listeners) : ((Unit) ⊕ (Unit)) → Ex × St := fun r => match r with
  | (.inl r) => (.exit 0, ⟨Regs.none, (Heap.at 36)⟩)
  | (.inr r) => (.ret, ⟨(Regs.none.set 4 (.d (.bool false))), (Heap.at 36)⟩)
end Go.Proofs.Ytnijbejobbajfaa.D
