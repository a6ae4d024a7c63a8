/- Shaken copy of a longer text: what one law needs. Its conditions: none. -/
import Derived.Test.YtnijbejobbajfaaZDDec0
set_option linter.unusedSimpArgs false
set_option linter.unusedVariables false
set_option maxHeartbeats 1000000
namespace Go.Proofs.Ytnijbejobbajfaa.D
open Go.AI
def L54_0_S (a0 : Listeners) (a1 : Int) (x0 : Int) : St := ⟨((((Regs.none.set 1 (.d (.int .i64 a1))).set 2 (.ptr 0 0 0)).set 4 (.ptr 1 0 0)).set 6 (.d (.int .i64 x0))), (((Heap.at 4).set 0 (some (.els 2 [.d (eListeners a0)] 0))).set 1 (some (.els 8 [.d (.agg [.int .i64 (0), .int .i64 (0), .str ([]), .int .i64 (0), .bool false, .bool false, .int .u8 (0), .int .i64 (0)])] 0)))⟩
def L54_0_F (a0 : Listeners) (a1 : Int) : ((Unit) ⊕ (Listener)) → Ex × St := fun r => match r with
  | (.inl r) => (.exit 0, ⟨(Regs.none.set 4 (.ptr 1 0 0)), ((Heap.at 4).set 1 (some (.els 8 [.d (.agg [.int .i64 (0), .int .i64 (0), .str ([]), .int .i64 (0), .bool false, .bool false, .int .u8 (0), .int .i64 (0)])] 0)))⟩)
  | (.inr r) => (.ret, ⟨((Regs.none.set 4 (.ptr 1 0 0)).set 5 (.d (.bool true))), ((Heap.at 4).set 1 (some (.els 8 [.d (eListener r)] 0)))⟩)
noncomputable def L54_0_step (a0 : Listeners) (a1 : Int) (x0 : Int) : Option ((Int) ⊕ ((Unit) ⊕ (Listener))) :=
  if (decide (x0 < (a0.list.l.length : Int))) = true then
    (rd a0.list.l x0).bind fun y3 =>
    if (y3.id == a1) = true then
      some (.inr (.inr y3))
    else
      some (.inl (IntKind.wrap .i64 (x0 + 1)))
  else
    some (.inr (.inl ()))
theorem L54_0_ok (a0 : Listeners) (a1 : Int) (x0 : Int) (o : (Int) ⊕ ((Unit) ⊕ (Listener))) (h : L54_0_step a0 a1 x0 = some o) : Wp prog c54B0 (L54_0_S a0 a1 x0) (LPost 0 (L54_0_S a0 a1) (L54_0_F a0 a1) o) := by
  unfold L54_0_step at h
  delta c54B0 L54_0_S
  try simp only [go_sem]
  first | refine WBr_splitN (fun hc1 => ?_) (fun hc2 => ?_) | refine WBr_split (fun hc1 => ?_) (fun hc2 => ?_)
  · rw [if_pos (show (decide (x0 < (a0.list.l.length : Int))) = true by first | exact hc1 | simpa using hc1)] at h
    try simp only [go_sem]
    obtain ⟨y3, hy4, h⟩ := Option.bind_eq_some_iff.1 h
    try simp only [go_sem, rd_pos hy4, rd_ge hy4, rd_map eListener hy4]
    first | refine WBr_splitN (fun hc5 => ?_) (fun hc6 => ?_) | refine WBr_split (fun hc5 => ?_) (fun hc6 => ?_)
    · rw [if_pos (show (y3.id == a1) = true by first | exact hc5 | simpa using hc5)] at h
      try simp only [go_sem, rd_pos hy4, rd_ge hy4, rd_map eListener hy4]
      cases h
      exact ⟨rfl, by simp, Up.of (N := 4) (N' := 24) [] rfl rfl (by decide) (.set (.d _) (.set (.ptr' rfl) RegsR.none)) (.set BlkR.refl_d BlksR.at)⟩
    · rw [if_neg (show ¬ (y3.id == a1) = true by first | (rw [hc6]; exact Bool.false_ne_true) | simpa using hc6 | (simp at hc6 ⊢; omega))] at h
      try simp only [go_sem, rd_pos hy4, rd_ge hy4, rd_map eListener hy4]
      cases h
      exact ⟨rfl, Up.of (N := 4) (N' := 20) [] rfl rfl (by decide) (.set (.d _) (.set (.ptr' rfl) (.set (.ptr' rfl) (.set (.d _) RegsR.none)))) (.set BlkR.refl_d (.set BlkR.refl_d BlksR.at))⟩
  · rw [if_neg (show ¬ (decide (x0 < (a0.list.l.length : Int))) = true by first | (rw [hc2]; exact Bool.false_ne_true) | simpa using hc2 | (simp at hc2 ⊢; omega))] at h
    try simp only [go_sem]
    cases h
    exact ⟨rfl, by simp, Up.of (N := 4) (N' := 9) [] rfl rfl (by decide) (.set (.ptr' rfl) RegsR.none) (.set BlkR.refl_d BlksR.at)⟩
noncomputable def P54 (a0 : Listeners) (a1 : Int) : Option (Listener × Bool) :=
  (loopV (L54_0_step a0 a1) 0).bind fun r7 =>
  match r7 with
  | (.inl q9) =>
    some ((⟨0, 0, [], 0, false, false, 0, 0⟩ : Listener), false)
  | (.inr q10) =>
    some (q10, true)
theorem ok54 (a0 : Listeners) (a1 : Int) (r : Listener × Bool) (h : P54 a0 a1 = some r) : pc prog 54 [eListeners a0, .int .i64 a1] = some ((eT2 eListener D.bool) r) := by
  unfold P54 at h
  refine pc_of (fn := c54) rfl rfl ?_
  delta c54
  try simp only [go_sem]
  obtain ⟨r7, hl8, h⟩ := Option.bind_eq_some_iff.1 h
  refine Wp.loopR locs (n := 0) (a := c54B0) rfl (L54_0_S a0 a1) (L54_0_F a0 a1) (L54_0_ok a0 a1) hl8 ?_ (by (repeat (first | refine Clo.block ?_ | refine Clo.seq locs rfl ?_)); (first | exact Clo.ret | exact Clo.lpost | exact Clo.cpost)) ?_
  · show Up 0 (L54_0_S a0 a1 0) _
    delta L54_0_S
    exact Up.of (N := 4) (N' := 4) [] rfl rfl (by decide) (.set (.d _) (.set (.ptr' rfl) (.set (.ptr' rfl) (.set (.d _) RegsR.none)))) (.set BlkR.refl_d (.set BlkR.refl_d BlksR.at))
  · rcases r7 with (q9 | q10)
    · dsimp only at h
      dsimp only [L54_0_F]
      try simp only [go_sem]
      cases h
      first | rfl | (simp only [go_sem]; done) | (simp only [go_sem]; rfl) | (simp [eListeners, eListener, eEvent, eRun, eCall, eStep, eEffects, elisten_place]; done)
    · dsimp only at h
      dsimp only [L54_0_F]
      try simp only [go_sem]
      cases h
      first | rfl | (simp only [go_sem]; done) | (simp only [go_sem]; rfl) | (simp [eListeners, eListener, eEvent, eRun, eCall, eStep, eEffects, elisten_place]; done)
def L55_1_F (a0 : Sl (Effects)) (a2 : Int) (x0 : Int) : ((Unit) ⊕ (Unit)) → Ex × St := fun r => match r with
  | (.inl r) => (.exit 2, ⟨Regs.none, (Heap.at 14)⟩)
  | (.inr r) => (.ret, ⟨(Regs.none.set 6 (.d (.bool true))), (Heap.at 14)⟩)
noncomputable def L55_1_step (a0 : Sl (Effects)) (a2 : Int) (x0 : Int) (x1 : Int) : Option ((Int) ⊕ ((Unit) ⊕ (Unit))) :=
  (rd a0.l x0).bind fun y7 =>
  if (decide (x1 < (y7.does.l.length : Int))) = true then
    (rd y7.does.l x1).bind fun y11 =>
    if (y11 == a2) = true then
      some (.inr (.inr ()))
    else
      some (.inl (IntKind.wrap .i64 (x1 + 1)))
  else
    some (.inr (.inl ()))
def L55_0_F (a0 : Sl (Effects)) (a1 : Int) (a2 : Int) : ((Unit) ⊕ (Bool)) → Ex × St := fun r => match r with
  | (.inl r) => (.exit 0, ⟨Regs.none, (Heap.at 2)⟩)
  | (.inr r) => (.ret, ⟨(Regs.none.set 6 (.d (.bool r))), (Heap.at 2)⟩)
noncomputable def L55_0_step (a0 : Sl (Effects)) (a1 : Int) (a2 : Int) (x0 : Int) : Option ((Int) ⊕ ((Unit) ⊕ (Bool))) :=
  if (decide (x0 < (a0.l.length : Int))) = true then
    (rd a0.l x0).bind fun y3 =>
    if (!(y3.callback == a1)) = true then
      some (.inl (IntKind.wrap .i64 (x0 + 1)))
    else
      (loopV (L55_1_step a0 a2 x0) 0).bind fun r15 =>
      match r15 with
      | (.inl q17) =>
        some (.inr (.inr false))
      | (.inr q18) =>
        some (.inr (.inr true))
  else
    some (.inr (.inl ()))
def L53_1_S (a0 : Sl (Step)) (x0 : Int) (x1 : Int) : St := ⟨(((Regs.none.set 0 (.d (.list a0.n (a0.l.map eStep)))).set 3 (.d (.int .i64 x0))).set 4 (.d (.int .i64 x1))), (Heap.at 7)⟩
def L53_1_F (a0 : Sl (Step)) (x0 : Int) : ((Unit) ⊕ (Unit)) → Ex × St := fun r => match r with
  | (.inl r) => (.exit 2, ⟨((Regs.none.set 0 (.d (.list a0.n (a0.l.map eStep)))).set 3 (.d (.int .i64 x0))), (Heap.at 7)⟩)
  | (.inr r) => (.ret, ⟨(Regs.none.set 2 (.d (.bool false))), (Heap.at 7)⟩)
noncomputable def L53_1_step (a0 : Sl (Step)) (x0 : Int) (x1 : Int) : Option ((Int) ⊕ ((Unit) ⊕ (Unit))) :=
  if (decide (x1 < x0)) = true then
    (rd a0.l x1).bind fun y5 =>
    (rd a0.l x0).bind fun y7 =>
    if (y5.item == y7.item) = true then
      some (.inr (.inr ()))
    else
      some (.inl (IntKind.wrap .i64 (x1 + 1)))
  else
    some (.inr (.inl ()))
theorem L53_1_ok (a0 : Sl (Step)) (x0 : Int) (x1 : Int) (o : (Int) ⊕ ((Unit) ⊕ (Unit))) (h : L53_1_step a0 x0 x1 = some o) : Wp prog c53B0 (L53_1_S a0 x0 x1) (LPost 0 (L53_1_S a0 x0) (L53_1_F a0 x0) o) := by
  unfold L53_1_step at h
  delta c53B0 L53_1_S
  try simp only [go_sem]
  first | refine WBr_splitN (fun hc3 => ?_) (fun hc4 => ?_) | refine WBr_split (fun hc3 => ?_) (fun hc4 => ?_)
  · rw [if_pos (show (decide (x1 < x0)) = true by first | exact hc3 | simpa using hc3)] at h
    try simp only [go_sem]
    obtain ⟨y5, hy6, h⟩ := Option.bind_eq_some_iff.1 h
    try simp only [go_sem, rd_pos hy6, rd_ge hy6, rd_map eStep hy6]
    obtain ⟨y7, hy8, h⟩ := Option.bind_eq_some_iff.1 h
    try simp only [go_sem, rd_pos hy6, rd_ge hy6, rd_map eStep hy6, rd_pos hy8, rd_ge hy8, rd_map eStep hy8]
    first | refine WBr_splitN (fun hc9 => ?_) (fun hc10 => ?_) | refine WBr_split (fun hc9 => ?_) (fun hc10 => ?_)
    · rw [if_pos (show (y5.item == y7.item) = true by first | exact hc9 | simpa using hc9)] at h
      try simp only [go_sem, rd_pos hy6, rd_ge hy6, rd_map eStep hy6, rd_pos hy8, rd_ge hy8, rd_map eStep hy8]
      cases h
      exact ⟨rfl, by simp, Up.of (N := 7) (N' := 22) [] rfl rfl (by decide) (.set (.d _) RegsR.none) BlksR.at⟩
    · rw [if_neg (show ¬ (y5.item == y7.item) = true by first | (rw [hc10]; exact Bool.false_ne_true) | simpa using hc10 | (simp at hc10 ⊢; omega))] at h
      try simp only [go_sem, rd_pos hy6, rd_ge hy6, rd_map eStep hy6, rd_pos hy8, rd_ge hy8, rd_map eStep hy8]
      cases h
      exact ⟨rfl, Up.of (N := 7) (N' := 24) [] rfl rfl (by decide) (.set (.d _) (.set (.d _) (.set (.d _) RegsR.none))) BlksR.at⟩
  · rw [if_neg (show ¬ (decide (x1 < x0)) = true by first | (rw [hc4]; exact Bool.false_ne_true) | simpa using hc4 | (simp at hc4 ⊢; omega))] at h
    try simp only [go_sem]
    cases h
    exact ⟨rfl, by simp, Up.of (N := 7) (N' := 10) [] rfl rfl (by decide) (.set (.d _) (.set (.d _) RegsR.none)) BlksR.at⟩
def L53_0_S (a0 : Sl (Step)) (x0 : Int) : St := ⟨((Regs.none.set 0 (.d (.list a0.n (a0.l.map eStep)))).set 3 (.d (.int .i64 x0))), (Heap.at 2)⟩
def L53_0_F (a0 : Sl (Step)) : ((Unit) ⊕ (Unit)) → Ex × St := fun r => match r with
  | (.inl r) => (.exit 0, ⟨Regs.none, (Heap.at 2)⟩)
  | (.inr r) => (.ret, ⟨(Regs.none.set 2 (.d (.bool false))), (Heap.at 2)⟩)
noncomputable def L53_0_step (a0 : Sl (Step)) (x0 : Int) : Option ((Int) ⊕ ((Unit) ⊕ (Unit))) :=
  if (decide (x0 < (a0.l.length : Int))) = true then
    (loopV (L53_1_step a0 x0) 0).bind fun r11 =>
    match r11 with
    | (.inl q13) =>
      some (.inl (IntKind.wrap .i64 (x0 + 1)))
    | (.inr q14) =>
      some (.inr (.inr ()))
  else
    some (.inr (.inl ()))
theorem L53_0_ok (a0 : Sl (Step)) (x0 : Int) (o : (Int) ⊕ ((Unit) ⊕ (Unit))) (h : L53_0_step a0 x0 = some o) : Wp prog c53B1 (L53_0_S a0 x0) (LPost 0 (L53_0_S a0) (L53_0_F a0) o) := by
  unfold L53_0_step at h
  delta c53B1 L53_0_S
  try simp only [go_sem]
  first | refine WBr_splitN (fun hc1 => ?_) (fun hc2 => ?_) | refine WBr_split (fun hc1 => ?_) (fun hc2 => ?_)
  · rw [if_pos (show (decide (x0 < (a0.l.length : Int))) = true by first | exact hc1 | simpa using hc1)] at h
    try simp only [go_sem]
    obtain ⟨r11, hl12, h⟩ := Option.bind_eq_some_iff.1 h
    refine Wp.loopR locs (n := 0) (a := c53B0) rfl (L53_1_S a0 x0) (L53_1_F a0 x0) (L53_1_ok a0 x0) hl12 ?_ (by (repeat (first | refine Clo.block ?_ | refine Clo.seq locs rfl ?_)); (first | exact Clo.ret | exact Clo.lpost | exact Clo.cpost)) ?_
    · show Up 0 (L53_1_S a0 x0 0) _
      delta L53_1_S
      exact Up.of (N := 7) (N' := 7) [] rfl rfl (by decide) (.set (.d _) (.set (.d _) (.set (.d _) RegsR.none))) BlksR.at
    · rcases r11 with (q13 | q14)
      · dsimp only at h
        dsimp only [L53_1_F]
        try simp only [go_sem]
        cases h
        exact ⟨rfl, Up.of (N := 2) (N' := 10) [] rfl rfl (by decide) (.set (.d _) (.set (.d _) RegsR.none)) BlksR.at⟩
      · dsimp only at h
        dsimp only [L53_1_F]
        try simp only [go_sem]
        cases h
        exact ⟨rfl, by simp, Up.of (N := 2) (N' := 7) [] rfl rfl (by decide) (.set (.d _) RegsR.none) BlksR.at⟩
  · rw [if_neg (show ¬ (decide (x0 < (a0.l.length : Int))) = true by first | (rw [hc2]; exact Bool.false_ne_true) | simpa using hc2 | (simp at hc2 ⊢; omega))] at h
    try simp only [go_sem]
    cases h
    exact ⟨rfl, by simp, Up.of (N := 2) (N' := 6) [] rfl rfl (by decide) RegsR.none BlksR.at⟩
noncomputable def P53 (a0 : Sl (Step)) : Option (Bool) :=
  (loopV (L53_0_step a0) 0).bind fun r15 =>
  match r15 with
  | (.inl q17) =>
    some true
  | (.inr q18) =>
    some false
theorem ok53 (a0 : Sl (Step)) (r : Bool) (h : P53 a0 = some r) : pc prog 53 [.list a0.n (a0.l.map eStep)] = some (D.bool r) := by
  unfold P53 at h
  refine pc_of (fn := c53) rfl rfl ?_
  delta c53
  try simp only [go_sem]
  obtain ⟨r15, hl16, h⟩ := Option.bind_eq_some_iff.1 h
  refine Wp.loopR locs (n := 0) (a := c53B1) rfl (L53_0_S a0) (L53_0_F a0) (L53_0_ok a0) hl16 ?_ (by (repeat (first | refine Clo.block ?_ | refine Clo.seq locs rfl ?_)); (first | exact Clo.ret | exact Clo.lpost | exact Clo.cpost)) ?_
  · show Up 0 (L53_0_S a0 0) _
    delta L53_0_S
    exact Up.of (N := 2) (N' := 2) [] rfl rfl (by decide) (.set (.d _) (.set (.d _) RegsR.none)) BlksR.at
  · rcases r15 with (q17 | q18)
    · dsimp only at h
      dsimp only [L53_0_F]
      try simp only [go_sem]
      cases h
      first | rfl | (simp only [go_sem]; done) | (simp only [go_sem]; rfl) | (simp [eListeners, eListener, eEvent, eRun, eCall, eStep, eEffects, elisten_place]; done)
    · dsimp only at h
      dsimp only [L53_0_F]
      try simp only [go_sem]
      cases h
      first | rfl | (simp only [go_sem]; done) | (simp only [go_sem]; rfl) | (simp [eListeners, eListener, eEvent, eRun, eCall, eStep, eEffects, elisten_place]; done)
def L14_0_F (a0 : Listeners) (a2 : Event) (a3 : Bool) (a4 : Sl (Effects)) (r5 : Sl (Call) × Listeners × Event × Bool × Int) : ((Bool) ⊕ (Unit)) → Ex × St := fun r => match r with
  | (.inl r) => (.exit 0, ⟨((((Regs.none.set 3 (.d (.bool a3))).set 13 (.ptr 18 0 0)).set 14 (.d (.bool r5.2.2.2.1))).set 16 (.d (.bool r))), ((Heap.at 30).set 18 (some (.els 13 [.d (eEvent r5.2.2.1)] 0)))⟩)
  | (.inr r) => (.ret, ⟨(Regs.none.set 10 (.d (.bool false))), (Heap.at 30)⟩)
def L12_0_S (a0 : Listeners) (a1 : Sl (Step)) (a2 : Event) (r5 : Sl (Call) × Listeners × Event × Bool × Int) (x0 : Int × Int × Int) : St := ⟨(((((((Regs.none.set 1 (.d (.list a1.n (a1.l.map eStep)))).set 4 (.ptr 0 0 0)).set 6 (.ptr 1 0 0)).set 9 (.d (.list r5.1.n (r5.1.l.map eCall)))).set 14 (.d (.int .i64 x0.1))).set 15 (.d (.int .i64 x0.2.1))).set 16 (.d (.int .i64 x0.2.2))), (((Heap.at 41).set 0 (some (.els 2 [.d (eListeners a0)] 0))).set 1 (some (.els 13 [.d (eEvent a2)] 0)))⟩
def L12_0_F (a0 : Listeners) (a1 : Sl (Step)) (a2 : Event) (r5 : Sl (Call) × Listeners × Event × Bool × Int) : ((Unit) ⊕ (Unit)) → Ex × St := fun r => match r with
  | (.inl r) => (.exit 0, ⟨((((Regs.none.set 1 (.d (.list a1.n (a1.l.map eStep)))).set 4 (.ptr 0 0 0)).set 6 (.ptr 1 0 0)).set 9 (.d (.list r5.1.n (r5.1.l.map eCall)))), (((Heap.at 41).set 0 (some (.els 2 [.d (eListeners a0)] 0))).set 1 (some (.els 13 [.d (eEvent a2)] 0)))⟩)
  | (.inr r) => (.ret, ⟨(Regs.none.set 8 (.d (.bool false))), (Heap.at 41)⟩)
noncomputable def L12_0_step (a0 : Listeners) (a1 : Sl (Step)) (a2 : Event) (r5 : Sl (Call) × Listeners × Event × Bool × Int) (x0 : Int × Int × Int) : Option ((Int × Int × Int) ⊕ ((Unit) ⊕ (Unit))) :=
  if (decide (x0.2.2 < (r5.1.l.length : Int))) = true then
    (rd r5.1.l x0.2.2).bind fun y18 =>
    (dec (eT2 eListener D.bool) (pc prog 54 [eListeners a0, .int .i64 y18.id])).bind fun r20 =>
    if (!(bif (bif (!r20.2) then true else (decide (y18.step < 0))) then true else (decide ((a1.l.length : Int) ≤ y18.step)))) = true then
      (rd a1.l y18.step).bind fun y24 =>
      if (!(bif (!(r20.1.node == y24.item)) then true else (!(r20.1.type_ == a2.type_)))) = true then
        if (!(r20.1.callback == y18.callback)) = true then
          some (.inr (.inr ()))
        else
          (if (!r20.1.capture) = true then
            some (IntKind.wrap .i64 ((a1.l.length : Int) + y18.step))
          else
            some (IntKind.wrap .i64 ((IntKind.wrap .i64 ((a1.l.length : Int) - 1)) - y18.step)) : Option ((Int))).bind fun r32 =>
          if (!(decide (r32 < x0.1))) = true then
            if (r32 == x0.1) = true then
              if (decide (y18.id ≤ x0.2.1)) = true then
                some (.inr (.inr ()))
              else
                some (.inl (r32, y18.id, (IntKind.wrap .i64 (x0.2.2 + 1))))
            else
              some (.inl (r32, y18.id, (IntKind.wrap .i64 (x0.2.2 + 1))))
          else
            some (.inr (.inr ()))
      else
        some (.inr (.inr ()))
    else
      some (.inr (.inr ()))
  else
    some (.inr (.inl ()))
theorem L12_0_ok (a0 : Listeners) (a1 : Sl (Step)) (a2 : Event) (r5 : Sl (Call) × Listeners × Event × Bool × Int) (x0 : Int × Int × Int) (o : (Int × Int × Int) ⊕ ((Unit) ⊕ (Unit))) (h : L12_0_step a0 a1 a2 r5 x0 = some o) : Wp prog c12B0 (L12_0_S a0 a1 a2 r5 x0) (LPost 0 (L12_0_S a0 a1 a2 r5) (L12_0_F a0 a1 a2 r5) o) := by
  unfold L12_0_step at h
  delta c12B0 L12_0_S
  try simp only [go_sem]
  first | refine WBr_splitN (fun hc16 => ?_) (fun hc17 => ?_) | refine WBr_split (fun hc16 => ?_) (fun hc17 => ?_)
  · rw [if_pos (show (decide (x0.2.2 < (r5.1.l.length : Int))) = true by first | exact hc16 | simpa using hc16)] at h
    try simp only [go_sem]
    obtain ⟨y18, hy19, h⟩ := Option.bind_eq_some_iff.1 h
    try simp only [go_sem, rd_pos hy19, rd_ge hy19, rd_map eCall hy19]
    obtain ⟨r20, hr21, h⟩ := Option.bind_eq_some_iff.1 h
    replace hr21 := dec_some hr21
    first | refine WVal_pc hr21 ?_ | (simp only [eT2_eq, eT3_eq, eT4_eq, eT5_eq] at hr21; refine WVal_pc hr21 ?_)
    try simp only [go_sem, rd_pos hy19, rd_ge hy19, rd_map eCall hy19]
    refine WGuard_pure (v := .d (.int .i64 y18.step)) (fun hb68 => by skip; simp only [go_sem, rd_pos hy19, rd_ge hy19, rd_map eCall hy19, hc16, hb68]) ?_
    try simp only [go_sem, rd_pos hy19, rd_ge hy19, rd_map eCall hy19]
    refine WGuard_pure (v := .d (.bool (decide (y18.step < 0)))) (fun hb67 => by skip; simp only [go_sem, rd_pos hy19, rd_ge hy19, rd_map eCall hy19, hc16, hb67]) ?_
    try simp only [go_sem, rd_pos hy19, rd_ge hy19, rd_map eCall hy19]
    refine WGuard_pure (v := .d (.int .i64 y18.step)) (fun hb66 => by skip; simp only [go_sem, rd_pos hy19, rd_ge hy19, rd_map eCall hy19, hc16, hb66]) ?_
    try simp only [go_sem, rd_pos hy19, rd_ge hy19, rd_map eCall hy19]
    refine WGuard_pure (v := .d (.list a1.n (a1.l.map eStep))) (fun hb65 => by skip; simp only [go_sem, rd_pos hy19, rd_ge hy19, rd_map eCall hy19, hc16, hb65]) ?_
    try simp only [go_sem, rd_pos hy19, rd_ge hy19, rd_map eCall hy19]
    refine WGuard_pure (v := .d (.int .i64 (a1.l.length : Int))) (fun hb64 => by skip; simp only [go_sem, rd_pos hy19, rd_ge hy19, rd_map eCall hy19, hc16, hb64]) ?_
    try simp only [go_sem, rd_pos hy19, rd_ge hy19, rd_map eCall hy19]
    refine WGuard_pure (v := .d (.bool (decide ((a1.l.length : Int) ≤ y18.step)))) (fun hb63 => by skip; simp only [go_sem, rd_pos hy19, rd_ge hy19, rd_map eCall hy19, hc16, hb63]) ?_
    try simp only [go_sem, rd_pos hy19, rd_ge hy19, rd_map eCall hy19]
    refine WGuard_pure (v := .ptr 55 0 1) (fun hb62 => by skip; simp only [go_sem, rd_pos hy19, rd_ge hy19, rd_map eCall hy19, hc16, hb62]) ?_
    try simp only [go_sem, rd_pos hy19, rd_ge hy19, rd_map eCall hy19]
    refine WGuard_pure (v := .d (.int .i64 r20.1.node)) (fun hb61 => by skip; simp only [go_sem, rd_pos hy19, rd_ge hy19, rd_map eCall hy19, hc16, hb61]) ?_
    try simp only [go_sem, rd_pos hy19, rd_ge hy19, rd_map eCall hy19]
    refine WGuard_pure (v := .d (.list a1.n (a1.l.map eStep))) (fun hb60 => by skip; simp only [go_sem, rd_pos hy19, rd_ge hy19, rd_map eCall hy19, hc16, hb60]) ?_
    try simp only [go_sem, rd_pos hy19, rd_ge hy19, rd_map eCall hy19]
    refine WGuard_pure (v := .d (.int .i64 y18.step)) (fun hb59 => by skip; simp only [go_sem, rd_pos hy19, rd_ge hy19, rd_map eCall hy19, hc16, hb59]) ?_
    try simp only [go_sem, rd_pos hy19, rd_ge hy19, rd_map eCall hy19]
    first | refine WGuard_splitN (fun hc22 => ?_) (fun hc23 => ?_) | refine WGuard_split (fun hc22 => ?_) (fun hc23 => ?_)
    · rw [if_pos (show (!(bif (bif (!r20.2) then true else (decide (y18.step < 0))) then true else (decide ((a1.l.length : Int) ≤ y18.step)))) = true by first | exact hc22 | simpa using hc22)] at h
      try simp only [go_sem, rd_pos hy19, rd_ge hy19, rd_map eCall hy19, hc22]
      obtain ⟨y24, hy25, h⟩ := Option.bind_eq_some_iff.1 h
      try simp only [go_sem, rd_pos hy19, rd_ge hy19, rd_map eCall hy19, rd_pos hy25, rd_ge hy25, rd_map eStep hy25]
      refine WGuard_pure (v := .ptr 55 0 2) (fun hb58 => by skip; simp only [go_sem, rd_pos hy19, rd_ge hy19, rd_map eCall hy19, rd_pos hy25, rd_ge hy25, rd_map eStep hy25, hc16, hc22, hb58]) ?_
      try simp only [go_sem, rd_pos hy19, rd_ge hy19, rd_map eCall hy19, rd_pos hy25, rd_ge hy25, rd_map eStep hy25]
      refine WGuard_pure (v := .d (.str r20.1.type_)) (fun hb57 => by skip; simp only [go_sem, rd_pos hy19, rd_ge hy19, rd_map eCall hy19, rd_pos hy25, rd_ge hy25, rd_map eStep hy25, hc16, hc22, hb57]) ?_
      try simp only [go_sem, rd_pos hy19, rd_ge hy19, rd_map eCall hy19, rd_pos hy25, rd_ge hy25, rd_map eStep hy25]
      refine WGuard_pure (v := .ptr 1 0 0) (fun hb56 => by skip; simp only [go_sem, rd_pos hy19, rd_ge hy19, rd_map eCall hy19, rd_pos hy25, rd_ge hy25, rd_map eStep hy25, hc16, hc22, hb56]) ?_
      try simp only [go_sem, rd_pos hy19, rd_ge hy19, rd_map eCall hy19, rd_pos hy25, rd_ge hy25, rd_map eStep hy25]
      refine WGuard_pure (v := .d (.str a2.type_)) (fun hb55 => by skip; simp only [go_sem, rd_pos hy19, rd_ge hy19, rd_map eCall hy19, rd_pos hy25, rd_ge hy25, rd_map eStep hy25, hc16, hc22, hb55]) ?_
      try simp only [go_sem, rd_pos hy19, rd_ge hy19, rd_map eCall hy19, rd_pos hy25, rd_ge hy25, rd_map eStep hy25]
      refine WGuard_pure (v := .d (.bool (!(r20.1.type_ == a2.type_)))) (fun hb54 => by skip; simp only [go_sem, rd_pos hy19, rd_ge hy19, rd_map eCall hy19, rd_pos hy25, rd_ge hy25, rd_map eStep hy25, hc16, hc22, hb54]) ?_
      try simp only [go_sem, rd_pos hy19, rd_ge hy19, rd_map eCall hy19, rd_pos hy25, rd_ge hy25, rd_map eStep hy25]
      refine WGuard_pure (v := .ptr 55 0 3) (fun hb53 => by skip; simp only [go_sem, rd_pos hy19, rd_ge hy19, rd_map eCall hy19, rd_pos hy25, rd_ge hy25, rd_map eStep hy25, hc16, hc22, hb53]) ?_
      try simp only [go_sem, rd_pos hy19, rd_ge hy19, rd_map eCall hy19, rd_pos hy25, rd_ge hy25, rd_map eStep hy25]
      refine WGuard_pure (v := .d (.int .i64 r20.1.callback)) (fun hb52 => by skip; simp only [go_sem, rd_pos hy19, rd_ge hy19, rd_map eCall hy19, rd_pos hy25, rd_ge hy25, rd_map eStep hy25, hc16, hc22, hb52]) ?_
      try simp only [go_sem, rd_pos hy19, rd_ge hy19, rd_map eCall hy19, rd_pos hy25, rd_ge hy25, rd_map eStep hy25]
      refine WGuard_pure (v := .d (.list r5.1.n (r5.1.l.map eCall))) (fun hb51 => by skip; simp only [go_sem, rd_pos hy19, rd_ge hy19, rd_map eCall hy19, rd_pos hy25, rd_ge hy25, rd_map eStep hy25, hc16, hc22, hb51]) ?_
      try simp only [go_sem, rd_pos hy19, rd_ge hy19, rd_map eCall hy19, rd_pos hy25, rd_ge hy25, rd_map eStep hy25]
      refine WGuard_pure (v := .d (.int .i64 x0.2.2)) (fun hb50 => by skip; simp only [go_sem, rd_pos hy19, rd_ge hy19, rd_map eCall hy19, rd_pos hy25, rd_ge hy25, rd_map eStep hy25, hc16, hc22, hb50]) ?_
      try simp only [go_sem, rd_pos hy19, rd_ge hy19, rd_map eCall hy19, rd_pos hy25, rd_ge hy25, rd_map eStep hy25]
      first | refine WGuard_splitN (fun hc26 => ?_) (fun hc27 => ?_) | refine WGuard_split (fun hc26 => ?_) (fun hc27 => ?_)
      · rw [if_pos (show (!(bif (!(r20.1.node == y24.item)) then true else (!(r20.1.type_ == a2.type_)))) = true by first | exact hc26 | simpa using hc26)] at h
        try simp only [go_sem, rd_pos hy19, rd_ge hy19, rd_map eCall hy19, rd_pos hy25, rd_ge hy25, rd_map eStep hy25, hc26]
        first | refine WBr_splitN (fun hc28 => ?_) (fun hc29 => ?_) | refine WBr_split (fun hc28 => ?_) (fun hc29 => ?_)
        · rw [if_pos (show (!(r20.1.callback == y18.callback)) = true by first | exact hc28 | simpa using hc28)] at h
          try simp only [go_sem, rd_pos hy19, rd_ge hy19, rd_map eCall hy19, rd_pos hy25, rd_ge hy25, rd_map eStep hy25]
          cases h
          exact ⟨rfl, by simp, Up.of (N := 41) (N' := 104) [] rfl rfl (by decide) (.set (.d _) RegsR.none) BlksR.at⟩
        · rw [if_neg (show ¬ (!(r20.1.callback == y18.callback)) = true by first | (rw [hc29]; exact Bool.false_ne_true) | simpa using hc29 | (simp at hc29 ⊢; omega))] at h
          try simp only [go_sem, rd_pos hy19, rd_ge hy19, rd_map eCall hy19, rd_pos hy25, rd_ge hy25, rd_map eStep hy25]
          obtain ⟨r32, hl33, h⟩ := Option.bind_eq_some_iff.1 h
          refine WBr.cut (n := 0) .normal ⟨((((((((Regs.none.set 1 (.d (.list a1.n (a1.l.map eStep)))).set 4 (.ptr 0 0 0)).set 6 (.ptr 1 0 0)).set 9 (.d (.list r5.1.n (r5.1.l.map eCall)))).set 14 (.d (.int .i64 x0.1))).set 15 (.d (.int .i64 x0.2.1))).set 16 (.d (.int .i64 x0.2.2))).set 20 (.d (.int .i64 r32))), (((Heap.at 112).set 0 (some (.els 2 [.d (eListeners a0)] 0))).set 1 (some (.els 13 [.d (eEvent a2)] 0)))⟩ ?_ (by (repeat (first | refine Clo.block ?_ | refine Clo.seq locs rfl ?_)); (first | exact Clo.ret | exact Clo.lpost | exact Clo.cpost)) ?_
          · replace h := hl33
            first | refine WBr_splitN (fun hc30 => ?_) (fun hc31 => ?_) | refine WBr_split (fun hc30 => ?_) (fun hc31 => ?_)
            · rw [if_pos (show (!r20.1.capture) = true by first | exact hc30 | simpa using hc30)] at h
              try simp only [go_sem, rd_pos hy19, rd_ge hy19, rd_map eCall hy19, rd_pos hy25, rd_ge hy25, rd_map eStep hy25]
              cases h
              exact ⟨rfl, Up.of (N := 112) (N' := 117) [] rfl rfl (by decide) (.set (.d _) (.set (.d _) (.set (.d _) (.set (.d _) (.set (.d _) (.set (.ptr' rfl) (.set (.ptr' rfl) (.set (.d _) RegsR.none)))))))) (.set BlkR.refl_d (.set BlkR.refl_d BlksR.at))⟩
            · rw [if_neg (show ¬ (!r20.1.capture) = true by first | (rw [hc31]; exact Bool.false_ne_true) | simpa using hc31 | (simp at hc31 ⊢; omega))] at h
              try simp only [go_sem, rd_pos hy19, rd_ge hy19, rd_map eCall hy19, rd_pos hy25, rd_ge hy25, rd_map eStep hy25]
              cases h
              exact ⟨rfl, Up.of (N := 112) (N' := 112) [] rfl rfl (by decide) (.set (.d _) (.set (.d _) (.set (.d _) (.set (.d _) (.set (.d _) (.set (.ptr' rfl) (.set (.ptr' rfl) (.set (.d _) RegsR.none)))))))) (.set BlkR.refl_d (.set BlkR.refl_d BlksR.at))⟩
          · try simp only [go_sem, rd_pos hy19, rd_ge hy19, rd_map eCall hy19, rd_pos hy25, rd_ge hy25, rd_map eStep hy25]
            refine WGuard_pure (v := .d (.int .i64 r32)) (fun hb49 => by skip; simp only [go_sem, rd_pos hy19, rd_ge hy19, rd_map eCall hy19, rd_pos hy25, rd_ge hy25, rd_map eStep hy25, hc16, hc22, hc26, hc29, hb49]) ?_
            try simp only [go_sem, rd_pos hy19, rd_ge hy19, rd_map eCall hy19, rd_pos hy25, rd_ge hy25, rd_map eStep hy25]
            refine WGuard_pure (v := .d (.int .i64 x0.1)) (fun hb48 => by skip; simp only [go_sem, rd_pos hy19, rd_ge hy19, rd_map eCall hy19, rd_pos hy25, rd_ge hy25, rd_map eStep hy25, hc16, hc22, hc26, hc29, hb48]) ?_
            try simp only [go_sem, rd_pos hy19, rd_ge hy19, rd_map eCall hy19, rd_pos hy25, rd_ge hy25, rd_map eStep hy25]
            refine WGuard_pure (v := .d (.bool (r32 == x0.1))) (fun hb47 => by skip; simp only [go_sem, rd_pos hy19, rd_ge hy19, rd_map eCall hy19, rd_pos hy25, rd_ge hy25, rd_map eStep hy25, hc16, hc22, hc26, hc29, hb47]) ?_
            try simp only [go_sem, rd_pos hy19, rd_ge hy19, rd_map eCall hy19, rd_pos hy25, rd_ge hy25, rd_map eStep hy25]
            refine WGuard_pure (v := .d (.bool (r32 == x0.1))) (fun hb46 => by skip; simp only [go_sem, rd_pos hy19, rd_ge hy19, rd_map eCall hy19, rd_pos hy25, rd_ge hy25, rd_map eStep hy25, hc16, hc22, hc26, hc29, hb46]) ?_
            try simp only [go_sem, rd_pos hy19, rd_ge hy19, rd_map eCall hy19, rd_pos hy25, rd_ge hy25, rd_map eStep hy25]
            refine WGuard_pure (v := .d (.list r5.1.n (r5.1.l.map eCall))) (fun hb43 => by ((obtain ⟨hb44, hb45⟩ := bif_true hb43)); simp only [go_sem, rd_pos hy19, rd_ge hy19, rd_map eCall hy19, rd_pos hy25, rd_ge hy25, rd_map eStep hy25, hc16, hc22, hc26, hc29, hb45, hb44]) ?_
            try simp only [go_sem, rd_pos hy19, rd_ge hy19, rd_map eCall hy19, rd_pos hy25, rd_ge hy25, rd_map eStep hy25]
            refine WGuard_pure (v := .d (.int .i64 x0.2.2)) (fun hb40 => by ((obtain ⟨hb41, hb42⟩ := bif_true hb40)); simp only [go_sem, rd_pos hy19, rd_ge hy19, rd_map eCall hy19, rd_pos hy25, rd_ge hy25, rd_map eStep hy25, hc16, hc22, hc26, hc29, hb42, hb41]) ?_
            try simp only [go_sem, rd_pos hy19, rd_ge hy19, rd_map eCall hy19, rd_pos hy25, rd_ge hy25, rd_map eStep hy25]
            rcases Bool.eq_false_or_eq_true ((decide (r32 < x0.1))) with hc35 | hc34
            rotate_left
            · rw [if_pos (show (!(decide (r32 < x0.1))) = true by first | exact hc34 | simpa using hc34)] at h
              try simp only [go_sem, rd_pos hy19, rd_ge hy19, rd_map eCall hy19, rd_pos hy25, rd_ge hy25, rd_map eStep hy25, hc34]
              first | refine WGuard_splitN (fun hc36 => ?_) (fun hc37 => ?_) | refine WGuard_split (fun hc36 => ?_) (fun hc37 => ?_)
              · rw [if_pos (show (r32 == x0.1) = true by first | exact hc36 | simpa using hc36)] at h
                try simp only [go_sem, rd_pos hy19, rd_ge hy19, rd_map eCall hy19, rd_pos hy25, rd_ge hy25, rd_map eStep hy25, hc36]
                try simp only [go_sem, rd_pos hy19, rd_ge hy19, rd_map eCall hy19, rd_pos hy25, rd_ge hy25, rd_map eStep hy25, hc16, hc22, hc26, hc29, hc34, hc36]
                first | refine WBr_splitN (fun hc38 => ?_) (fun hc39 => ?_) | refine WBr_split (fun hc38 => ?_) (fun hc39 => ?_)
                · rw [if_pos (show (decide (y18.id ≤ x0.2.1)) = true by first | exact hc38 | simpa using hc38)] at h
                  try simp only [go_sem, rd_pos hy19, rd_ge hy19, rd_map eCall hy19, rd_pos hy25, rd_ge hy25, rd_map eStep hy25]
                  cases h
                  exact ⟨rfl, by simp, Up.of (N := 41) (N' := 130) [] rfl rfl (by decide) (.set (.d _) RegsR.none) BlksR.at⟩
                · rw [if_neg (show ¬ (decide (y18.id ≤ x0.2.1)) = true by first | (rw [hc39]; exact Bool.false_ne_true) | simpa using hc39 | (simp at hc39 ⊢; omega))] at h
                  try simp only [go_sem, rd_pos hy19, rd_ge hy19, rd_map eCall hy19, rd_pos hy25, rd_ge hy25, rd_map eStep hy25]
                  cases h
                  exact ⟨rfl, Up.of (N := 41) (N' := 140) [] rfl rfl (by decide) (.set (.d _) (.set (.d _) (.set (.d _) (.set (.d _) (.set (.ptr' rfl) (.set (.ptr' rfl) (.set (.d _) RegsR.none))))))) (.set BlkR.refl_d (.set BlkR.refl_d BlksR.at))⟩
              · rw [if_neg (show ¬ (r32 == x0.1) = true by first | (rw [hc37]; exact Bool.false_ne_true) | simpa using hc37 | (simp at hc37 ⊢; omega))] at h
                try simp only [go_sem, rd_pos hy19, rd_ge hy19, rd_map eCall hy19, rd_pos hy25, rd_ge hy25, rd_map eStep hy25, hc37]
                try simp only [go_sem, rd_pos hy19, rd_ge hy19, rd_map eCall hy19, rd_pos hy25, rd_ge hy25, rd_map eStep hy25, hc16, hc22, hc26, hc29, hc34, hc37]
                cases h
                exact ⟨rfl, Up.of (N := 41) (N' := 140) [] rfl rfl (by decide) (.set (.d _) (.set (.d _) (.set (.d _) (.set (.d _) (.set (.ptr' rfl) (.set (.ptr' rfl) (.set (.d _) RegsR.none))))))) (.set BlkR.refl_d (.set BlkR.refl_d BlksR.at))⟩
            · rw [if_neg (show ¬ (!(decide (r32 < x0.1))) = true by first | (rw [hc35]; exact Bool.false_ne_true) | simpa using hc35 | (simp at hc35 ⊢; omega))] at h
              try simp only [go_sem, rd_pos hy19, rd_ge hy19, rd_map eCall hy19, rd_pos hy25, rd_ge hy25, rd_map eStep hy25, hc35]
              try simp only [go_sem, rd_pos hy19, rd_ge hy19, rd_map eCall hy19, rd_pos hy25, rd_ge hy25, rd_map eStep hy25, hc16, hc22, hc26, hc29, hc35]
              try simp only [go_sem, rd_pos hy19, rd_ge hy19, rd_map eCall hy19, rd_pos hy25, rd_ge hy25, rd_map eStep hy25, hc16, hc22, hc26, hc29, hc35]
              cases h
              exact ⟨rfl, by simp, Up.of (N := 41) (N' := 130) [] rfl rfl (by decide) (.set (.d _) RegsR.none) BlksR.at⟩
      · rw [if_neg (show ¬ (!(bif (!(r20.1.node == y24.item)) then true else (!(r20.1.type_ == a2.type_)))) = true by first | (rw [hc27]; exact Bool.false_ne_true) | simpa using hc27 | (simp at hc27 ⊢; omega))] at h
        try simp only [go_sem, rd_pos hy19, rd_ge hy19, rd_map eCall hy19, rd_pos hy25, rd_ge hy25, rd_map eStep hy25, hc27]
        cases h
        exact ⟨rfl, by simp, Up.of (N := 41) (N' := 104) [] rfl rfl (by decide) (.set (.d _) RegsR.none) BlksR.at⟩
    · rw [if_neg (show ¬ (!(bif (bif (!r20.2) then true else (decide (y18.step < 0))) then true else (decide ((a1.l.length : Int) ≤ y18.step)))) = true by first | (rw [hc23]; exact Bool.false_ne_true) | simpa using hc23 | (simp at hc23 ⊢; omega))] at h
      try simp only [go_sem, rd_pos hy19, rd_ge hy19, rd_map eCall hy19, hc23]
      cases h
      exact ⟨rfl, by simp, Up.of (N := 41) (N' := 104) [] rfl rfl (by decide) (.set (.d _) RegsR.none) BlksR.at⟩
  · rw [if_neg (show ¬ (decide (x0.2.2 < (r5.1.l.length : Int))) = true by first | (rw [hc17]; exact Bool.false_ne_true) | simpa using hc17 | (simp at hc17 ⊢; omega))] at h
    try simp only [go_sem]
    cases h
    exact ⟨rfl, by simp, Up.of (N := 41) (N' := 45) [] rfl rfl (by decide) (.set (.d _) (.set (.ptr' rfl) (.set (.ptr' rfl) (.set (.d _) RegsR.none)))) (.set BlkR.refl_d (.set BlkR.refl_d BlksR.at))⟩
def L12_2_S (a0 : Listeners) (a1 : Sl (Step)) (a2 : Event) (r5 : Sl (Call) × Listeners × Event × Bool × Int) (x1 : Int × Int) (x2 : Int × Int) : St := ⟨(((((((Regs.none.set 1 (.d (.list a1.n (a1.l.map eStep)))).set 4 (.ptr 0 0 0)).set 6 (.ptr 1 0 0)).set 9 (.d (.list r5.1.n (r5.1.l.map eCall)))).set 21 (.d (.int .i64 x2.1))).set 22 (.d (.int .i64 x1.2))).set 23 (.d (.int .i64 x2.2))), (((Heap.at 49).set 0 (some (.els 2 [.d (eListeners a0)] 0))).set 1 (some (.els 13 [.d (eEvent a2)] 0)))⟩
def L12_2_F (a0 : Listeners) (a1 : Sl (Step)) (a2 : Event) (r5 : Sl (Call) × Listeners × Event × Bool × Int) (x1 : Int × Int) : ((Int)) → Ex × St := fun r => (.exit 4, ⟨((((((Regs.none.set 1 (.d (.list a1.n (a1.l.map eStep)))).set 4 (.ptr 0 0 0)).set 6 (.ptr 1 0 0)).set 9 (.d (.list r5.1.n (r5.1.l.map eCall)))).set 21 (.d (.int .i64 r))).set 22 (.d (.int .i64 x1.2))), (((Heap.at 49).set 0 (some (.els 2 [.d (eListeners a0)] 0))).set 1 (some (.els 13 [.d (eEvent a2)] 0)))⟩)
noncomputable def L12_2_step (a0 : Listeners) (a1 : Sl (Step)) (a2 : Event) (r5 : Sl (Call) × Listeners × Event × Bool × Int) (x1 : Int × Int) (x2 : Int × Int) : Option ((Int × Int) ⊕ ((Int))) :=
  if (decide (x2.2 < (a1.l.length : Int))) = true then
    (rd a0.list.l x1.2).bind fun y76 =>
    (rd a1.l x2.2).bind fun y78 =>
    if (bif (y76.node == y78.item) then (y76.type_ == a2.type_) else false) = true then
      if (!y76.capture) = true then
        if (bif (!(y78.target == 0)) then true else a2.bubbles) = true then
          some (.inl ((IntKind.wrap .i64 (x2.1 + 1)), (IntKind.wrap .i64 (x2.2 + 1))))
        else
          some (.inl (x2.1, (IntKind.wrap .i64 (x2.2 + 1))))
      else
        some (.inl ((IntKind.wrap .i64 (x2.1 + 1)), (IntKind.wrap .i64 (x2.2 + 1))))
    else
      some (.inl (x2.1, (IntKind.wrap .i64 (x2.2 + 1))))
  else
    some (.inr x2.1)
theorem L12_2_ok (a0 : Listeners) (a1 : Sl (Step)) (a2 : Event) (r5 : Sl (Call) × Listeners × Event × Bool × Int) (x1 : Int × Int) (x2 : Int × Int) (o : (Int × Int) ⊕ ((Int))) (h : L12_2_step a0 a1 a2 r5 x1 x2 = some o) : Wp prog c12B1 (L12_2_S a0 a1 a2 r5 x1 x2) (LPost 0 (L12_2_S a0 a1 a2 r5 x1) (L12_2_F a0 a1 a2 r5 x1) o) := by
  unfold L12_2_step at h
  delta c12B1 L12_2_S
  try simp only [go_sem]
  first | refine WBr_splitN (fun hc74 => ?_) (fun hc75 => ?_) | refine WBr_split (fun hc74 => ?_) (fun hc75 => ?_)
  · rw [if_pos (show (decide (x2.2 < (a1.l.length : Int))) = true by first | exact hc74 | simpa using hc74)] at h
    try simp only [go_sem]
    obtain ⟨y76, hy77, h⟩ := Option.bind_eq_some_iff.1 h
    try simp only [go_sem, rd_pos hy77, rd_ge hy77, rd_map eListener hy77]
    obtain ⟨y78, hy79, h⟩ := Option.bind_eq_some_iff.1 h
    try simp only [go_sem, rd_pos hy77, rd_ge hy77, rd_map eListener hy77, rd_pos hy79, rd_ge hy79, rd_map eStep hy79]
    refine WGuard_pure (v := .ptr 58 0 2) (fun hb101 => by skip; simp only [go_sem, rd_pos hy77, rd_ge hy77, rd_map eListener hy77, rd_pos hy79, rd_ge hy79, rd_map eStep hy79, hc74, hb101]) ?_
    try simp only [go_sem, rd_pos hy77, rd_ge hy77, rd_map eListener hy77, rd_pos hy79, rd_ge hy79, rd_map eStep hy79]
    refine WGuard_pure (v := .d (.str y76.type_)) (fun hb100 => by skip; simp only [go_sem, rd_pos hy77, rd_ge hy77, rd_map eListener hy77, rd_pos hy79, rd_ge hy79, rd_map eStep hy79, hc74, hb100]) ?_
    try simp only [go_sem, rd_pos hy77, rd_ge hy77, rd_map eListener hy77, rd_pos hy79, rd_ge hy79, rd_map eStep hy79]
    refine WGuard_pure (v := .ptr 1 0 0) (fun hb99 => by skip; simp only [go_sem, rd_pos hy77, rd_ge hy77, rd_map eListener hy77, rd_pos hy79, rd_ge hy79, rd_map eStep hy79, hc74, hb99]) ?_
    try simp only [go_sem, rd_pos hy77, rd_ge hy77, rd_map eListener hy77, rd_pos hy79, rd_ge hy79, rd_map eStep hy79]
    refine WGuard_pure (v := .d (.str a2.type_)) (fun hb98 => by skip; simp only [go_sem, rd_pos hy77, rd_ge hy77, rd_map eListener hy77, rd_pos hy79, rd_ge hy79, rd_map eStep hy79, hc74, hb98]) ?_
    try simp only [go_sem, rd_pos hy77, rd_ge hy77, rd_map eListener hy77, rd_pos hy79, rd_ge hy79, rd_map eStep hy79]
    refine WGuard_pure (v := .d (.bool (y76.type_ == a2.type_))) (fun hb97 => by skip; simp only [go_sem, rd_pos hy77, rd_ge hy77, rd_map eListener hy77, rd_pos hy79, rd_ge hy79, rd_map eStep hy79, hc74, hb97]) ?_
    try simp only [go_sem, rd_pos hy77, rd_ge hy77, rd_map eListener hy77, rd_pos hy79, rd_ge hy79, rd_map eStep hy79]
    refine WGuard_pure (v := .ptr 58 0 4) (fun hb96 => by skip; simp only [go_sem, rd_pos hy77, rd_ge hy77, rd_map eListener hy77, rd_pos hy79, rd_ge hy79, rd_map eStep hy79, hc74, hb96]) ?_
    try simp only [go_sem, rd_pos hy77, rd_ge hy77, rd_map eListener hy77, rd_pos hy79, rd_ge hy79, rd_map eStep hy79]
    refine WGuard_pure (v := .d (.bool y76.capture)) (fun hb95 => by skip; simp only [go_sem, rd_pos hy77, rd_ge hy77, rd_map eListener hy77, rd_pos hy79, rd_ge hy79, rd_map eStep hy79, hc74, hb95]) ?_
    try simp only [go_sem, rd_pos hy77, rd_ge hy77, rd_map eListener hy77, rd_pos hy79, rd_ge hy79, rd_map eStep hy79]
    refine WGuard_pure (v := .d (.bool y76.capture)) (fun hb94 => by skip; simp only [go_sem, rd_pos hy77, rd_ge hy77, rd_map eListener hy77, rd_pos hy79, rd_ge hy79, rd_map eStep hy79, hc74, hb94]) ?_
    try simp only [go_sem, rd_pos hy77, rd_ge hy77, rd_map eListener hy77, rd_pos hy79, rd_ge hy79, rd_map eStep hy79]
    refine WGuard_pure (v := .d (.list a1.n (a1.l.map eStep))) (fun hb91 => by ((obtain ⟨hb92, hb93⟩ := bif_true hb91)); simp only [go_sem, rd_pos hy77, rd_ge hy77, rd_map eListener hy77, rd_pos hy79, rd_ge hy79, rd_map eStep hy79, hc74, hb93, hb92]) ?_
    try simp only [go_sem, rd_pos hy77, rd_ge hy77, rd_map eListener hy77, rd_pos hy79, rd_ge hy79, rd_map eStep hy79]
    refine WGuard_pure (v := .d (.int .i64 x2.2)) (fun hb88 => by ((obtain ⟨hb89, hb90⟩ := bif_true hb88)); simp only [go_sem, rd_pos hy77, rd_ge hy77, rd_map eListener hy77, rd_pos hy79, rd_ge hy79, rd_map eStep hy79, hc74, hb90, hb89]) ?_
    try simp only [go_sem, rd_pos hy77, rd_ge hy77, rd_map eListener hy77, rd_pos hy79, rd_ge hy79, rd_map eStep hy79]
    rcases Bool.eq_false_or_eq_true ((bif (y76.node == y78.item) then (y76.type_ == a2.type_) else false)) with hc80 | hc81
    · rw [if_pos (show (bif (y76.node == y78.item) then (y76.type_ == a2.type_) else false) = true by first | exact hc80 | simpa using hc80)] at h
      try simp only [go_sem, rd_pos hy77, rd_ge hy77, rd_map eListener hy77, rd_pos hy79, rd_ge hy79, rd_map eStep hy79, hc80]
      first | refine WGuard_splitN (fun hc82 => ?_) (fun hc83 => ?_) | refine WGuard_split (fun hc82 => ?_) (fun hc83 => ?_)
      · rw [if_pos (show (!y76.capture) = true by first | exact hc82 | simpa using hc82)] at h
        try simp only [go_sem, rd_pos hy77, rd_ge hy77, rd_map eListener hy77, rd_pos hy79, rd_ge hy79, rd_map eStep hy79, hc82]
        try simp only [go_sem, rd_pos hy77, rd_ge hy77, rd_map eListener hy77, rd_pos hy79, rd_ge hy79, rd_map eStep hy79, hc74, hc80, hc82]
        refine WGuard_pure (v := .ptr 1 0 1) (fun hb87 => by skip; simp only [go_sem, rd_pos hy77, rd_ge hy77, rd_map eListener hy77, rd_pos hy79, rd_ge hy79, rd_map eStep hy79, hc74, hc80, hc82, hb87]) ?_
        try simp only [go_sem, rd_pos hy77, rd_ge hy77, rd_map eListener hy77, rd_pos hy79, rd_ge hy79, rd_map eStep hy79]
        refine WGuard_pure (v := .d (.bool a2.bubbles)) (fun hb86 => by skip; simp only [go_sem, rd_pos hy77, rd_ge hy77, rd_map eListener hy77, rd_pos hy79, rd_ge hy79, rd_map eStep hy79, hc74, hc80, hc82, hb86]) ?_
        try simp only [go_sem, rd_pos hy77, rd_ge hy77, rd_map eListener hy77, rd_pos hy79, rd_ge hy79, rd_map eStep hy79]
        first | refine WBr_splitN (fun hc84 => ?_) (fun hc85 => ?_) | refine WBr_split (fun hc84 => ?_) (fun hc85 => ?_)
        · rw [if_pos (show (bif (!(y78.target == 0)) then true else a2.bubbles) = true by first | exact hc84 | simpa using hc84)] at h
          try simp only [go_sem, rd_pos hy77, rd_ge hy77, rd_map eListener hy77, rd_pos hy79, rd_ge hy79, rd_map eStep hy79]
          cases h
          exact ⟨rfl, Up.of (N := 49) (N' := 97) [] rfl rfl (by decide) (.set (.d _) (.set (.d _) (.set (.d _) (.set (.d _) (.set (.ptr' rfl) (.set (.ptr' rfl) (.set (.d _) RegsR.none))))))) (.set BlkR.refl_d (.set BlkR.refl_d BlksR.at))⟩
        · rw [if_neg (show ¬ (bif (!(y78.target == 0)) then true else a2.bubbles) = true by first | (rw [hc85]; exact Bool.false_ne_true) | simpa using hc85 | (simp at hc85 ⊢; omega))] at h
          try simp only [go_sem, rd_pos hy77, rd_ge hy77, rd_map eListener hy77, rd_pos hy79, rd_ge hy79, rd_map eStep hy79]
          cases h
          exact ⟨rfl, Up.of (N := 49) (N' := 94) [] rfl rfl (by decide) (.set (.d _) (.set (.d _) (.set (.d _) (.set (.d _) (.set (.ptr' rfl) (.set (.ptr' rfl) (.set (.d _) RegsR.none))))))) (.set BlkR.refl_d (.set BlkR.refl_d BlksR.at))⟩
      · rw [if_neg (show ¬ (!y76.capture) = true by first | (rw [hc83]; exact Bool.false_ne_true) | simpa using hc83 | (simp at hc83 ⊢; omega))] at h
        try simp only [go_sem, rd_pos hy77, rd_ge hy77, rd_map eListener hy77, rd_pos hy79, rd_ge hy79, rd_map eStep hy79, hc83]
        try simp only [go_sem, rd_pos hy77, rd_ge hy77, rd_map eListener hy77, rd_pos hy79, rd_ge hy79, rd_map eStep hy79, hc74, hc80, hc83]
        cases h
        exact ⟨rfl, Up.of (N := 49) (N' := 97) [] rfl rfl (by decide) (.set (.d _) (.set (.d _) (.set (.d _) (.set (.d _) (.set (.ptr' rfl) (.set (.ptr' rfl) (.set (.d _) RegsR.none))))))) (.set BlkR.refl_d (.set BlkR.refl_d BlksR.at))⟩
    · rw [if_neg (show ¬ (bif (y76.node == y78.item) then (y76.type_ == a2.type_) else false) = true by first | (rw [hc81]; exact Bool.false_ne_true) | simpa using hc81 | (simp at hc81 ⊢; omega))] at h
      try simp only [go_sem, rd_pos hy77, rd_ge hy77, rd_map eListener hy77, rd_pos hy79, rd_ge hy79, rd_map eStep hy79, hc81]
      try simp only [go_sem, rd_pos hy77, rd_ge hy77, rd_map eListener hy77, rd_pos hy79, rd_ge hy79, rd_map eStep hy79, hc74, hc81]
      try simp only [go_sem, rd_pos hy77, rd_ge hy77, rd_map eListener hy77, rd_pos hy79, rd_ge hy79, rd_map eStep hy79, hc74, hc81]
      try simp only [go_sem, rd_pos hy77, rd_ge hy77, rd_map eListener hy77, rd_pos hy79, rd_ge hy79, rd_map eStep hy79, hc74, hc81]
      try simp only [go_sem, rd_pos hy77, rd_ge hy77, rd_map eListener hy77, rd_pos hy79, rd_ge hy79, rd_map eStep hy79, hc74, hc81]
      cases h
      exact ⟨rfl, Up.of (N := 49) (N' := 94) [] rfl rfl (by decide) (.set (.d _) (.set (.d _) (.set (.d _) (.set (.d _) (.set (.ptr' rfl) (.set (.ptr' rfl) (.set (.d _) RegsR.none))))))) (.set BlkR.refl_d (.set BlkR.refl_d BlksR.at))⟩
  · rw [if_neg (show ¬ (decide (x2.2 < (a1.l.length : Int))) = true by first | (rw [hc75]; exact Bool.false_ne_true) | simpa using hc75 | (simp at hc75 ⊢; omega))] at h
    try simp only [go_sem]
    cases h
    exact ⟨rfl, by simp, Up.of (N := 49) (N' := 53) [] rfl rfl (by decide) (.set (.d _) (.set (.d _) (.set (.d _) (.set (.ptr' rfl) (.set (.ptr' rfl) (.set (.d _) RegsR.none)))))) (.set BlkR.refl_d (.set BlkR.refl_d BlksR.at))⟩
def L12_1_S (a0 : Listeners) (a1 : Sl (Step)) (a2 : Event) (r5 : Sl (Call) × Listeners × Event × Bool × Int) (x1 : Int × Int) : St := ⟨((((((Regs.none.set 1 (.d (.list a1.n (a1.l.map eStep)))).set 4 (.ptr 0 0 0)).set 6 (.ptr 1 0 0)).set 9 (.d (.list r5.1.n (r5.1.l.map eCall)))).set 21 (.d (.int .i64 x1.1))).set 22 (.d (.int .i64 x1.2))), (((Heap.at 43).set 0 (some (.els 2 [.d (eListeners a0)] 0))).set 1 (some (.els 13 [.d (eEvent a2)] 0)))⟩
def L12_1_F (a0 : Listeners) (a1 : Sl (Step)) (a2 : Event) (r5 : Sl (Call) × Listeners × Event × Bool × Int) : ((Int)) → Ex × St := fun r => (.exit 2, ⟨((Regs.none.set 9 (.d (.list r5.1.n (r5.1.l.map eCall)))).set 21 (.d (.int .i64 r))), (Heap.at 43)⟩)
noncomputable def L12_1_step (a0 : Listeners) (a1 : Sl (Step)) (a2 : Event) (r5 : Sl (Call) × Listeners × Event × Bool × Int) (x1 : Int × Int) : Option ((Int × Int) ⊕ ((Int))) :=
  if (decide (x1.2 < (a0.list.l.length : Int))) = true then
    (loopV (L12_2_step a0 a1 a2 r5 x1) (x1.1, 0)).bind fun r102 =>
    some (.inl (r102, (IntKind.wrap .i64 (x1.2 + 1))))
  else
    some (.inr x1.1)
theorem L12_1_ok (a0 : Listeners) (a1 : Sl (Step)) (a2 : Event) (r5 : Sl (Call) × Listeners × Event × Bool × Int) (x1 : Int × Int) (o : (Int × Int) ⊕ ((Int))) (h : L12_1_step a0 a1 a2 r5 x1 = some o) : Wp prog c12B2 (L12_1_S a0 a1 a2 r5 x1) (LPost 0 (L12_1_S a0 a1 a2 r5) (L12_1_F a0 a1 a2 r5) o) := by
  unfold L12_1_step at h
  delta c12B2 L12_1_S
  try simp only [go_sem]
  first | refine WBr_splitN (fun hc72 => ?_) (fun hc73 => ?_) | refine WBr_split (fun hc72 => ?_) (fun hc73 => ?_)
  · rw [if_pos (show (decide (x1.2 < (a0.list.l.length : Int))) = true by first | exact hc72 | simpa using hc72)] at h
    try simp only [go_sem]
    obtain ⟨r102, hl103, h⟩ := Option.bind_eq_some_iff.1 h
    refine Wp.loopR locs (n := 0) (a := c12B1) rfl (L12_2_S a0 a1 a2 r5 x1) (L12_2_F a0 a1 a2 r5 x1) (L12_2_ok a0 a1 a2 r5 x1) hl103 ?_ (by (repeat (first | refine Clo.block ?_ | refine Clo.seq locs rfl ?_)); (first | exact Clo.ret | exact Clo.lpost | exact Clo.cpost)) ?_
    · show Up 0 (L12_2_S a0 a1 a2 r5 x1 (x1.1, 0)) _
      delta L12_2_S
      exact Up.of (N := 49) (N' := 49) [] rfl rfl (by decide) (.set (.d _) (.set (.d _) (.set (.d _) (.set (.d _) (.set (.ptr' rfl) (.set (.ptr' rfl) (.set (.d _) RegsR.none))))))) (.set BlkR.refl_d (.set BlkR.refl_d BlksR.at))
    · dsimp only [L12_2_F]
      try simp only [go_sem]
      cases h
      exact ⟨rfl, Up.of (N := 43) (N' := 52) [] rfl rfl (by decide) (.set (.d _) (.set (.d _) (.set (.d _) (.set (.ptr' rfl) (.set (.ptr' rfl) (.set (.d _) RegsR.none)))))) (.set BlkR.refl_d (.set BlkR.refl_d BlksR.at))⟩
  · rw [if_neg (show ¬ (decide (x1.2 < (a0.list.l.length : Int))) = true by first | (rw [hc73]; exact Bool.false_ne_true) | simpa using hc73 | (simp at hc73 ⊢; omega))] at h
    try simp only [go_sem]
    cases h
    exact ⟨rfl, by simp, Up.of (N := 43) (N' := 48) [] rfl rfl (by decide) (.set (.d _) (.set (.d _) RegsR.none)) BlksR.at⟩
noncomputable def P12 (a0 : Listeners) (a1 : Sl (Step)) (a2 : Event) (a3 : Bool) : Option (Bool) :=
  (dec D.bool (pc prog 44 [])).bind fun r1 =>
  if (!r1) = true then
    some false
  else
    (dec (eT5 (eSl eCall) eListeners eEvent D.bool (D.int .i64)) (pc prog 50 [eListeners a0, .list a1.n (a1.l.map eStep), eEvent a2, .bool a3, .list true []])).bind fun r5 =>
    if (!(bif (bif (!(r5.2.2.2.2 == 0)) then true else a2.stop) then true else a2.stopNow)) = true then
      (dec D.bool (pc prog 53 [.list a1.n (a1.l.map eStep)])).bind fun r9 =>
      if (!r9) = true then
        some (bif (r5.2.2.2.2 == 0) then true else ((r5.1.l.length : Int) == 0))
      else
        (loopV (L12_0_step a0 a1 a2 r5) ((-1), 0, 0)).bind fun r69 =>
        match r69 with
        | (.inl q71) =>
          (loopV (L12_1_step a0 a1 a2 r5) (0, 0)).bind fun r104 =>
          some (r104 == (r5.1.l.length : Int))
        | (.inr q106) =>
          some false
    else
      some (bif (r5.2.2.2.2 == 0) then true else ((r5.1.l.length : Int) == 0))
theorem ok12 (a0 : Listeners) (a1 : Sl (Step)) (a2 : Event) (a3 : Bool) (r : Bool) (h : P12 a0 a1 a2 a3 = some r) : pc prog 12 [eListeners a0, .list a1.n (a1.l.map eStep), eEvent a2, .bool a3] = some (D.bool r) := by
  unfold P12 at h
  refine pc_of (fn := c12) rfl rfl ?_
  delta c12
  try simp only [go_sem]
  obtain ⟨r1, hr2, h⟩ := Option.bind_eq_some_iff.1 h
  replace hr2 := dec_some hr2
  first | refine WVal_pc hr2 ?_ | (simp only [eT2_eq, eT3_eq, eT4_eq, eT5_eq] at hr2; refine WVal_pc hr2 ?_)
  try simp only [go_sem]
  first | refine WBr_splitN (fun hc3 => ?_) (fun hc4 => ?_) | refine WBr_split (fun hc3 => ?_) (fun hc4 => ?_)
  · rw [if_pos (show (!r1) = true by first | exact hc3 | simpa using hc3)] at h
    try simp only [go_sem]
    cases h
    first | rfl | (simp only [go_sem]; done) | (simp only [go_sem]; rfl) | (simp [eListeners, eListener, eEvent, eRun, eCall, eStep, eEffects, elisten_place, hc3]; done)
  · rw [if_neg (show ¬ (!r1) = true by first | (rw [hc4]; exact Bool.false_ne_true) | simpa using hc4 | (simp at hc4 ⊢; omega))] at h
    try simp only [go_sem]
    obtain ⟨r5, hr6, h⟩ := Option.bind_eq_some_iff.1 h
    replace hr6 := dec_some hr6
    first | refine WVal_pc hr6 ?_ | (simp only [eT2_eq, eT3_eq, eT4_eq, eT5_eq] at hr6; refine WVal_pc hr6 ?_)
    try simp only [go_sem]
    refine WGuard_pure (v := .ptr 1 0 5) (fun hb114 => by skip; simp only [go_sem, hc4, hb114]) ?_
    try simp only [go_sem]
    refine WGuard_pure (v := .d (.bool a2.stop)) (fun hb113 => by skip; simp only [go_sem, hc4, hb113]) ?_
    try simp only [go_sem]
    refine WGuard_pure (v := .ptr 1 0 6) (fun hb112 => by skip; simp only [go_sem, hc4, hb112]) ?_
    try simp only [go_sem]
    refine WGuard_pure (v := .d (.bool a2.stopNow)) (fun hb111 => by skip; simp only [go_sem, hc4, hb111]) ?_
    try simp only [go_sem]
    refine WGuard_pure (v := .d (.list a1.n (a1.l.map eStep))) (fun hb110 => by skip; simp only [go_sem, hc4, hb110]) ?_
    try simp only [go_sem]
    first | refine WGuard_splitN (fun hc7 => ?_) (fun hc8 => ?_) | refine WGuard_split (fun hc7 => ?_) (fun hc8 => ?_)
    · rw [if_pos (show (!(bif (bif (!(r5.2.2.2.2 == 0)) then true else a2.stop) then true else a2.stopNow)) = true by first | exact hc7 | simpa using hc7)] at h
      try simp only [go_sem, hc7]
      obtain ⟨r9, hr10, h⟩ := Option.bind_eq_some_iff.1 h
      replace hr10 := dec_some hr10
      first | refine WVal_pc hr10 ?_ | (simp only [eT2_eq, eT3_eq, eT4_eq, eT5_eq] at hr10; refine WVal_pc hr10 ?_)
      try simp only [go_sem]
      first | refine WBr_splitN (fun hc11 => ?_) (fun hc12 => ?_) | refine WBr_split (fun hc11 => ?_) (fun hc12 => ?_)
      · rw [if_pos (show (!r9) = true by first | exact hc11 | simpa using hc11)] at h
        try simp only [go_sem]
        refine WGuard_pure (v := .d (.list r5.1.n (r5.1.l.map eCall))) (fun hb15 => by skip; simp only [go_sem, hc4, hc7, hc11, hb15]) ?_
        try simp only [go_sem]
        refine WGuard_pure (v := .d (.int .i64 (r5.1.l.length : Int))) (fun hb14 => by skip; simp only [go_sem, hc4, hc7, hc11, hb14]) ?_
        try simp only [go_sem]
        refine WGuard_pure (v := .d (.bool ((r5.1.l.length : Int) == 0))) (fun hb13 => by skip; simp only [go_sem, hc4, hc7, hc11, hb13]) ?_
        try simp only [go_sem]
        cases h
        first | rfl | (simp only [go_sem]; done) | (simp only [go_sem]; rfl) | (simp [eListeners, eListener, eEvent, eRun, eCall, eStep, eEffects, elisten_place, hc4, hc7, hc11]; done)
      · rw [if_neg (show ¬ (!r9) = true by first | (rw [hc12]; exact Bool.false_ne_true) | simpa using hc12 | (simp at hc12 ⊢; omega))] at h
        try simp only [go_sem]
        obtain ⟨r69, hl70, h⟩ := Option.bind_eq_some_iff.1 h
        refine Wp.loopR locs (n := 0) (a := c12B0) rfl (L12_0_S a0 a1 a2 r5) (L12_0_F a0 a1 a2 r5) (L12_0_ok a0 a1 a2 r5) hl70 ?_ (by (repeat (first | refine Clo.block ?_ | refine Clo.seq locs rfl ?_)); (first | exact Clo.ret | exact Clo.lpost | exact Clo.cpost)) ?_
        · show Up 0 (L12_0_S a0 a1 a2 r5 ((-1), 0, 0)) _
          delta L12_0_S
          exact Up.of (N := 41) (N' := 41) [] rfl rfl (by decide) (.set (.d _) (.set (.d _) (.set (.d _) (.set (.d _) (.set (.ptr' rfl) (.set (.ptr' rfl) (.set (.d _) RegsR.none))))))) (.set BlkR.refl_d (.set BlkR.refl_d BlksR.at))
        · rcases r69 with (q71 | q106)
          · dsimp only at h
            dsimp only [L12_0_F]
            try simp only [go_sem]
            obtain ⟨r104, hl105, h⟩ := Option.bind_eq_some_iff.1 h
            refine Wp.loopR locs (n := 0) (a := c12B2) rfl (L12_1_S a0 a1 a2 r5) (L12_1_F a0 a1 a2 r5) (L12_1_ok a0 a1 a2 r5) hl105 ?_ (by (repeat (first | refine Clo.block ?_ | refine Clo.seq locs rfl ?_)); (first | exact Clo.ret | exact Clo.lpost | exact Clo.cpost)) ?_
            · show Up 0 (L12_1_S a0 a1 a2 r5 (0, 0)) _
              delta L12_1_S
              exact Up.of (N := 43) (N' := 43) [] rfl rfl (by decide) (.set (.d _) (.set (.d _) (.set (.d _) (.set (.ptr' rfl) (.set (.ptr' rfl) (.set (.d _) RegsR.none)))))) (.set BlkR.refl_d (.set BlkR.refl_d BlksR.at))
            · dsimp only [L12_1_F]
              try simp only [go_sem]
              cases h
              first | rfl | (simp only [go_sem]; done) | (simp only [go_sem]; rfl) | (simp [eListeners, eListener, eEvent, eRun, eCall, eStep, eEffects, elisten_place, hc4, hc7, hc12]; done)
          · dsimp only at h
            dsimp only [L12_0_F]
            try simp only [go_sem]
            cases h
            first | rfl | (simp only [go_sem]; done) | (simp only [go_sem]; rfl) | (simp [eListeners, eListener, eEvent, eRun, eCall, eStep, eEffects, elisten_place, hc4, hc7, hc12]; done)
    · rw [if_neg (show ¬ (!(bif (bif (!(r5.2.2.2.2 == 0)) then true else a2.stop) then true else a2.stopNow)) = true by first | (rw [hc8]; exact Bool.false_ne_true) | simpa using hc8 | (simp at hc8 ⊢; omega))] at h
      try simp only [go_sem, hc8]
      refine WGuard_pure (v := .d (.list r5.1.n (r5.1.l.map eCall))) (fun hb109 => by skip; simp only [go_sem, hc4, hc8, hb109]) ?_
      try simp only [go_sem]
      refine WGuard_pure (v := .d (.int .i64 (r5.1.l.length : Int))) (fun hb108 => by skip; simp only [go_sem, hc4, hc8, hb108]) ?_
      try simp only [go_sem]
      refine WGuard_pure (v := .d (.bool ((r5.1.l.length : Int) == 0))) (fun hb107 => by skip; simp only [go_sem, hc4, hc8, hb107]) ?_
      try simp only [go_sem]
      cases h
      first | rfl | (simp only [go_sem]; done) | (simp only [go_sem]; rfl) | (simp [eListeners, eListener, eEvent, eRun, eCall, eStep, eEffects, elisten_place, hc4, hc8]; done)
end Go.Proofs.Ytnijbejobbajfaa.D
