/- Shaken copy of a longer text: what one law needs. Its conditions: none. -/
import Derived.Test.YtnijbejobbajfaaZDDec0
set_option linter.unusedSimpArgs false
set_option linter.unusedVariables false
set_option maxHeartbeats 1000000
namespace Go.Proofs.Ytnijbejobbajfaa.D
open Go.AI
def L54_0_S (a0 : Listeners) (a1 : Int) (x0 : Int) : St := ⟨((((Regs.none.set 1 (.d (.int .i64 a1))).set 2 (.ptr 0 0 0)).set 4 (.ptr 1 0 0)).set 6 (.d (.int .i64 x0))), (((Heap.at 4).set 0 (some (.els 2 [.d (eListeners a0)] 0))).set 1 (some (.els 8 [.d (.agg [.int .i64 (0), .int .i64 (0), .str ([]), .int .i64 (0), .bool false, .bool false, .int .u8 (0), .int .i64 (0)])] 0)))⟩
def L54_0_F (a0 : Listeners) (a1 : Int) : ((Unit) ⊕ (Listener)) → Ex × St := fun r => match r with
  | (.inl r) => (.exit 0, ⟨(Regs.none.set 4 (.ptr 1 0 0)), ((Heap.at 4).set 1 (some (.els 8 [.d (.agg [.int .i64 (0), .int .i64 (0), .str ([]), .int .i64 (0), .bool false, .bool false, .int .u8 (0), .int .i64 (0)])] 0)))⟩)
  | (.inr r) => (.ret, ⟨((Regs.none.set 4 (.ptr 1 0 0)).set 5 (.d (.bool true))), ((Heap.at 4).set 1 (some (.els 8 [.d (eListener r)] 0)))⟩)
noncomputable def L54_0_step (a0 : Listeners) (a1 : Int) (x0 : Int) : Option ((Int) ⊕ ((Unit) ⊕ (Listener))) :=
  if (decide (x0 < (a0.list.l.length : Int))) = true then
    (rd a0.list.l x0).bind fun y3 =>
    if (y3.id == a1) = true then
      some (.inr (.inr y3))
    else
      some (.inl (IntKind.wrap .i64 (x0 + 1)))
  else
    some (.inr (.inl ()))
theorem L54_0_ok (a0 : Listeners) (a1 : Int) (x0 : Int) (o : (Int) ⊕ ((Unit) ⊕ (Listener))) (h : L54_0_step a0 a1 x0 = some o) : Wp prog c54B0 (L54_0_S a0 a1 x0) (LPost 0 (L54_0_S a0 a1) (L54_0_F a0 a1) o) := by
  unfold L54_0_step at h
  delta c54B0 L54_0_S
  try simp only [go_sem]
  first | refine WBr_splitN (fun hc1 => ?_) (fun hc2 => ?_) | refine WBr_split (fun hc1 => ?_) (fun hc2 => ?_)
  · rw [if_pos (show (decide (x0 < (a0.list.l.length : Int))) = true by first | exact hc1 | simpa using hc1)] at h
    try simp only [go_sem]
    obtain ⟨y3, hy4, h⟩ := Option.bind_eq_some_iff.1 h
    try simp only [go_sem, rd_pos hy4, rd_ge hy4, rd_map eListener hy4]
    first | refine WBr_splitN (fun hc5 => ?_) (fun hc6 => ?_) | refine WBr_split (fun hc5 => ?_) (fun hc6 => ?_)
    · rw [if_pos (show (y3.id == a1) = true by first | exact hc5 | simpa using hc5)] at h
      try simp only [go_sem, rd_pos hy4, rd_ge hy4, rd_map eListener hy4]
      cases h
      exact ⟨rfl, by simp, Up.of (N := 4) (N' := 24) [] rfl rfl (by decide) (.set (.d _) (.set (.ptr' rfl) RegsR.none)) (.set BlkR.refl_d BlksR.at)⟩
    · rw [if_neg (show ¬ (y3.id == a1) = true by first | (rw [hc6]; exact Bool.false_ne_true) | simpa using hc6 | (simp at hc6 ⊢; omega))] at h
      try simp only [go_sem, rd_pos hy4, rd_ge hy4, rd_map eListener hy4]
      cases h
      exact ⟨rfl, Up.of (N := 4) (N' := 20) [] rfl rfl (by decide) (.set (.d _) (.set (.ptr' rfl) (.set (.ptr' rfl) (.set (.d _) RegsR.none)))) (.set BlkR.refl_d (.set BlkR.refl_d BlksR.at))⟩
  · rw [if_neg (show ¬ (decide (x0 < (a0.list.l.length : Int))) = true by first | (rw [hc2]; exact Bool.false_ne_true) | simpa using hc2 | (simp at hc2 ⊢; omega))] at h
    try simp only [go_sem]
    cases h
    exact ⟨rfl, by simp, Up.of (N := 4) (N' := 9) [] rfl rfl (by decide) (.set (.ptr' rfl) RegsR.none) (.set BlkR.refl_d BlksR.at)⟩
noncomputable def P54 (a0 : Listeners) (a1 : Int) : Option (Listener × Bool) :=
  (loopV (L54_0_step a0 a1) 0).bind fun r7 =>
  match r7 with
  | (.inl q9) =>
    some ((⟨0, 0, [], 0, false, false, 0, 0⟩ : Listener), false)
  | (.inr q10) =>
    some (q10, true)
theorem ok54 (a0 : Listeners) (a1 : Int) (r : Listener × Bool) (h : P54 a0 a1 = some r) : pc prog 54 [eListeners a0, .int .i64 a1] = some ((eT2 eListener D.bool) r) := by
  unfold P54 at h
  refine pc_of (fn := c54) rfl rfl ?_
  delta c54
  try simp only [go_sem]
  obtain ⟨r7, hl8, h⟩ := Option.bind_eq_some_iff.1 h
  refine Wp.loopR locs (n := 0) (a := c54B0) rfl (L54_0_S a0 a1) (L54_0_F a0 a1) (L54_0_ok a0 a1) hl8 ?_ (by (repeat (first | refine Clo.block ?_ | refine Clo.seq locs rfl ?_)); (first | exact Clo.ret | exact Clo.lpost | exact Clo.cpost)) ?_
  · show Up 0 (L54_0_S a0 a1 0) _
    delta L54_0_S
    exact Up.of (N := 4) (N' := 4) [] rfl rfl (by decide) (.set (.d _) (.set (.ptr' rfl) (.set (.ptr' rfl) (.set (.d _) RegsR.none)))) (.set BlkR.refl_d (.set BlkR.refl_d BlksR.at))
  · rcases r7 with (q9 | q10)
    · dsimp only at h
      dsimp only [L54_0_F]
      try simp only [go_sem]
      cases h
      first | rfl | (simp only [go_sem]; done) | (simp only [go_sem]; rfl) | (simp [eListeners, eListener, eEvent, eRun, eCall, eStep, eEffects, elisten_place]; done)
    · dsimp only at h
      dsimp only [L54_0_F]
      try simp only [go_sem]
      cases h
      first | rfl | (simp only [go_sem]; done) | (simp only [go_sem]; rfl) | (simp [eListeners, eListener, eEvent, eRun, eCall, eStep, eEffects, elisten_place]; done)
def L55_1_S (a0 : Sl (Effects)) (a2 : Int) (x0 : Int) (x1 : Int) : St := ⟨((((Regs.none.set 0 (.d (.list a0.n (a0.l.map eEffects)))).set 2 (.d (.int .u8 a2))).set 7 (.d (.int .i64 x0))).set 8 (.d (.int .i64 x1))), (Heap.at 14)⟩
def L55_1_F (a0 : Sl (Effects)) (a2 : Int) (x0 : Int) : ((Unit) ⊕ (Unit)) → Ex × St := fun r => match r with
  | (.inl r) => (.exit 2, ⟨Regs.none, (Heap.at 14)⟩)
  | (.inr r) => (.ret, ⟨(Regs.none.set 6 (.d (.bool true))), (Heap.at 14)⟩)
noncomputable def L55_1_step (a0 : Sl (Effects)) (a2 : Int) (x0 : Int) (x1 : Int) : Option ((Int) ⊕ ((Unit) ⊕ (Unit))) :=
  (rd a0.l x0).bind fun y7 =>
  if (decide (x1 < (y7.does.l.length : Int))) = true then
    (rd y7.does.l x1).bind fun y11 =>
    if (y11 == a2) = true then
      some (.inr (.inr ()))
    else
      some (.inl (IntKind.wrap .i64 (x1 + 1)))
  else
    some (.inr (.inl ()))
theorem L55_1_ok (a0 : Sl (Effects)) (a2 : Int) (x0 : Int) (x1 : Int) (o : (Int) ⊕ ((Unit) ⊕ (Unit))) (h : L55_1_step a0 a2 x0 x1 = some o) : Wp prog c55B0 (L55_1_S a0 a2 x0 x1) (LPost 0 (L55_1_S a0 a2 x0) (L55_1_F a0 a2 x0) o) := by
  unfold L55_1_step at h
  delta c55B0 L55_1_S
  try simp only [go_sem]
  obtain ⟨y7, hy8, h⟩ := Option.bind_eq_some_iff.1 h
  try simp only [go_sem, rd_pos hy8, rd_ge hy8, rd_map eEffects hy8]
  first | refine WBr_splitN (fun hc9 => ?_) (fun hc10 => ?_) | refine WBr_split (fun hc9 => ?_) (fun hc10 => ?_)
  · rw [if_pos (show (decide (x1 < (y7.does.l.length : Int))) = true by first | exact hc9 | simpa using hc9)] at h
    try simp only [go_sem, rd_pos hy8, rd_ge hy8, rd_map eEffects hy8]
    obtain ⟨y11, hy12, h⟩ := Option.bind_eq_some_iff.1 h
    try simp only [go_sem, rd_pos hy8, rd_ge hy8, rd_map eEffects hy8, rd_pos hy12, rd_ge hy12, rd_map (D.int .u8) hy12]
    first | refine WBr_splitN (fun hc13 => ?_) (fun hc14 => ?_) | refine WBr_split (fun hc13 => ?_) (fun hc14 => ?_)
    · rw [if_pos (show (y11 == a2) = true by first | exact hc13 | simpa using hc13)] at h
      try simp only [go_sem, rd_pos hy8, rd_ge hy8, rd_map eEffects hy8, rd_pos hy12, rd_ge hy12, rd_map (D.int .u8) hy12]
      cases h
      exact ⟨rfl, by simp, Up.of (N := 14) (N' := 33) [] rfl rfl (by decide) (.set (.d _) RegsR.none) BlksR.at⟩
    · rw [if_neg (show ¬ (y11 == a2) = true by first | (rw [hc14]; exact Bool.false_ne_true) | simpa using hc14 | (simp at hc14 ⊢; omega))] at h
      try simp only [go_sem, rd_pos hy8, rd_ge hy8, rd_map eEffects hy8, rd_pos hy12, rd_ge hy12, rd_map (D.int .u8) hy12]
      cases h
      exact ⟨rfl, Up.of (N := 14) (N' := 35) [] rfl rfl (by decide) (.set (.d _) (.set (.d _) (.set (.d _) (.set (.d _) RegsR.none)))) BlksR.at⟩
  · rw [if_neg (show ¬ (decide (x1 < (y7.does.l.length : Int))) = true by first | (rw [hc10]; exact Bool.false_ne_true) | simpa using hc10 | (simp at hc10 ⊢; omega))] at h
    try simp only [go_sem, rd_pos hy8, rd_ge hy8, rd_map eEffects hy8]
    cases h
    exact ⟨rfl, by simp, Up.of (N := 14) (N' := 22) [] rfl rfl (by decide) RegsR.none BlksR.at⟩
def L55_0_S (a0 : Sl (Effects)) (a1 : Int) (a2 : Int) (x0 : Int) : St := ⟨((((Regs.none.set 0 (.d (.list a0.n (a0.l.map eEffects)))).set 1 (.d (.int .i64 a1))).set 2 (.d (.int .u8 a2))).set 7 (.d (.int .i64 x0))), (Heap.at 2)⟩
def L55_0_F (a0 : Sl (Effects)) (a1 : Int) (a2 : Int) : ((Unit) ⊕ (Bool)) → Ex × St := fun r => match r with
  | (.inl r) => (.exit 0, ⟨Regs.none, (Heap.at 2)⟩)
  | (.inr r) => (.ret, ⟨(Regs.none.set 6 (.d (.bool r))), (Heap.at 2)⟩)
noncomputable def L55_0_step (a0 : Sl (Effects)) (a1 : Int) (a2 : Int) (x0 : Int) : Option ((Int) ⊕ ((Unit) ⊕ (Bool))) :=
  if (decide (x0 < (a0.l.length : Int))) = true then
    (rd a0.l x0).bind fun y3 =>
    if (!(y3.callback == a1)) = true then
      some (.inl (IntKind.wrap .i64 (x0 + 1)))
    else
      (loopV (L55_1_step a0 a2 x0) 0).bind fun r15 =>
      match r15 with
      | (.inl q17) =>
        some (.inr (.inr false))
      | (.inr q18) =>
        some (.inr (.inr true))
  else
    some (.inr (.inl ()))
theorem L55_0_ok (a0 : Sl (Effects)) (a1 : Int) (a2 : Int) (x0 : Int) (o : (Int) ⊕ ((Unit) ⊕ (Bool))) (h : L55_0_step a0 a1 a2 x0 = some o) : Wp prog c55B1 (L55_0_S a0 a1 a2 x0) (LPost 0 (L55_0_S a0 a1 a2) (L55_0_F a0 a1 a2) o) := by
  unfold L55_0_step at h
  delta c55B1 L55_0_S
  try simp only [go_sem]
  first | refine WBr_splitN (fun hc1 => ?_) (fun hc2 => ?_) | refine WBr_split (fun hc1 => ?_) (fun hc2 => ?_)
  · rw [if_pos (show (decide (x0 < (a0.l.length : Int))) = true by first | exact hc1 | simpa using hc1)] at h
    try simp only [go_sem]
    obtain ⟨y3, hy4, h⟩ := Option.bind_eq_some_iff.1 h
    try simp only [go_sem, rd_pos hy4, rd_ge hy4, rd_map eEffects hy4]
    first | refine WBr_splitN (fun hc5 => ?_) (fun hc6 => ?_) | refine WBr_split (fun hc5 => ?_) (fun hc6 => ?_)
    · rw [if_pos (show (!(y3.callback == a1)) = true by first | exact hc5 | simpa using hc5)] at h
      try simp only [go_sem, rd_pos hy4, rd_ge hy4, rd_map eEffects hy4]
      cases h
      exact ⟨rfl, Up.of (N := 2) (N' := 16) [] rfl rfl (by decide) (.set (.d _) (.set (.d _) (.set (.d _) (.set (.d _) RegsR.none)))) BlksR.at⟩
    · rw [if_neg (show ¬ (!(y3.callback == a1)) = true by first | (rw [hc6]; exact Bool.false_ne_true) | simpa using hc6 | (simp at hc6 ⊢; omega))] at h
      try simp only [go_sem, rd_pos hy4, rd_ge hy4, rd_map eEffects hy4]
      obtain ⟨r15, hl16, h⟩ := Option.bind_eq_some_iff.1 h
      refine Wp.loopR locs (n := 0) (a := c55B0) rfl (L55_1_S a0 a2 x0) (L55_1_F a0 a2 x0) (L55_1_ok a0 a2 x0) hl16 ?_ (by (repeat (first | refine Clo.block ?_ | refine Clo.seq locs rfl ?_)); (first | exact Clo.ret | exact Clo.lpost | exact Clo.cpost)) ?_
      · show Up 0 (L55_1_S a0 a2 x0 0) _
        delta L55_1_S
        exact Up.of (N := 14) (N' := 14) [] rfl rfl (by decide) (.set (.d _) (.set (.d _) (.set (.d _) (.set (.d _) RegsR.none)))) BlksR.at
      · rcases r15 with (q17 | q18)
        · dsimp only at h
          dsimp only [L55_1_F]
          try simp only [go_sem, rd_pos hy4, rd_ge hy4, rd_map eEffects hy4]
          cases h
          exact ⟨rfl, by simp, Up.of (N := 2) (N' := 15) [] rfl rfl (by decide) (.set (.d _) RegsR.none) BlksR.at⟩
        · dsimp only at h
          dsimp only [L55_1_F]
          try simp only [go_sem, rd_pos hy4, rd_ge hy4, rd_map eEffects hy4]
          cases h
          exact ⟨rfl, by simp, Up.of (N := 2) (N' := 14) [] rfl rfl (by decide) (.set (.d _) RegsR.none) BlksR.at⟩
  · rw [if_neg (show ¬ (decide (x0 < (a0.l.length : Int))) = true by first | (rw [hc2]; exact Bool.false_ne_true) | simpa using hc2 | (simp at hc2 ⊢; omega))] at h
    try simp only [go_sem]
    cases h
    exact ⟨rfl, by simp, Up.of (N := 2) (N' := 6) [] rfl rfl (by decide) RegsR.none BlksR.at⟩
noncomputable def P55 (a0 : Sl (Effects)) (a1 : Int) (a2 : Int) : Option (Bool) :=
  (loopV (L55_0_step a0 a1 a2) 0).bind fun r19 =>
  match r19 with
  | (.inl q21) =>
    some false
  | (.inr q22) =>
    some q22
theorem ok55 (a0 : Sl (Effects)) (a1 : Int) (a2 : Int) (r : Bool) (h : P55 a0 a1 a2 = some r) : pc prog 55 [.list a0.n (a0.l.map eEffects), .int .i64 a1, .int .u8 a2] = some (D.bool r) := by
  unfold P55 at h
  refine pc_of (fn := c55) rfl rfl ?_
  delta c55
  try simp only [go_sem]
  obtain ⟨r19, hl20, h⟩ := Option.bind_eq_some_iff.1 h
  refine Wp.loopR locs (n := 0) (a := c55B1) rfl (L55_0_S a0 a1 a2) (L55_0_F a0 a1 a2) (L55_0_ok a0 a1 a2) hl20 ?_ (by (repeat (first | refine Clo.block ?_ | refine Clo.seq locs rfl ?_)); (first | exact Clo.ret | exact Clo.lpost | exact Clo.cpost)) ?_
  · show Up 0 (L55_0_S a0 a1 a2 0) _
    delta L55_0_S
    exact Up.of (N := 2) (N' := 2) [] rfl rfl (by decide) (.set (.d _) (.set (.d _) (.set (.d _) (.set (.d _) RegsR.none)))) BlksR.at
  · rcases r19 with (q21 | q22)
    · dsimp only at h
      dsimp only [L55_0_F]
      try simp only [go_sem]
      cases h
      first | rfl | (simp only [go_sem]; done) | (simp only [go_sem]; rfl) | (simp [eListeners, eListener, eEvent, eRun, eCall, eStep, eEffects, elisten_place]; done)
    · dsimp only at h
      dsimp only [L55_0_F]
      try simp only [go_sem]
      cases h
      first | rfl | (simp only [go_sem]; done) | (simp only [go_sem]; rfl) | (simp [eListeners, eListener, eEvent, eRun, eCall, eStep, eEffects, elisten_place]; done)
noncomputable def L56_1_step (a0 : Sl (Effects)) (a2 : Int) (x0 : Int) (x1 : Int) : Option ((Int) ⊕ ((Unit) ⊕ (Unit))) :=
  (rd a0.l x0).bind fun y7 =>
  if (decide (x1 < (y7.gone.l.length : Int))) = true then
    (rd y7.gone.l x1).bind fun y11 =>
    if (y11 == a2) = true then
      some (.inr (.inr ()))
    else
      some (.inl (IntKind.wrap .i64 (x1 + 1)))
  else
    some (.inr (.inl ()))
def L13_0_S (a0 : Listeners) (a2 : Event) (a4 : Sl (Effects)) (r5 : Sl (Call) × Listeners × Event × Bool × Int) (x0 : Int) : St := ⟨(((((Regs.none.set 4 (.d (.list a4.n (a4.l.map eEffects)))).set 5 (.ptr 0 0 0)).set 7 (.ptr 1 0 0)).set 11 (.d (.list r5.1.n (r5.1.l.map eCall)))).set 16 (.d (.int .i64 x0))), (((Heap.at 51).set 0 (some (.els 2 [.d (eListeners a0)] 0))).set 1 (some (.els 13 [.d (eEvent a2)] 0)))⟩
def L13_0_F (a0 : Listeners) (a2 : Event) (a4 : Sl (Effects)) (r5 : Sl (Call) × Listeners × Event × Bool × Int) : ((Unit) ⊕ (Unit)) → Ex × St := fun r => match r with
  | (.inl r) => (.exit 0, ⟨((Regs.none.set 7 (.ptr 1 0 0)).set 11 (.d (.list r5.1.n (r5.1.l.map eCall)))), ((Heap.at 51).set 1 (some (.els 13 [.d (eEvent a2)] 0)))⟩)
  | (.inr r) => (.ret, ⟨(Regs.none.set 10 (.d (.bool false))), (Heap.at 51)⟩)
noncomputable def L13_0_step (a0 : Listeners) (a2 : Event) (a4 : Sl (Effects)) (r5 : Sl (Call) × Listeners × Event × Bool × Int) (x0 : Int) : Option ((Int) ⊕ ((Unit) ⊕ (Unit))) :=
  if (decide ((IntKind.wrap .i64 (x0 + 1)) < (r5.1.l.length : Int))) = true then
    (rd r5.1.l x0).bind fun y13 =>
    (dec D.bool (pc prog 55 [.list a4.n (a4.l.map eEffects), .int .i64 y13.callback, .int .u8 (2)])).bind fun r15 =>
    if r15 = true then
      some (.inr (.inr ()))
    else
      (dec (eT2 eListener D.bool) (pc prog 54 [eListeners a0, .int .i64 y13.id])).bind fun r19 =>
      (rd r5.1.l (IntKind.wrap .i64 (x0 + 1))).bind fun y21 =>
      (dec (eT2 eListener D.bool) (pc prog 54 [eListeners a0, .int .i64 y21.id])).bind fun r23 =>
      if (!(bif (!r19.2) then true else (!r23.2))) = true then
        (dec D.bool (pc prog 55 [.list a4.n (a4.l.map eEffects), .int .i64 y13.callback, .int .u8 (1)])).bind fun r27 =>
        if r27 = true then
          if (bif (!(y13.step == y21.step)) then true else (!(r19.1.capture == r23.1.capture))) = true then
            some (.inr (.inr ()))
          else
            some (.inl (IntKind.wrap .i64 (x0 + 1)))
        else
          some (.inl (IntKind.wrap .i64 (x0 + 1)))
      else
        some (.inr (.inr ()))
  else
    some (.inr (.inl ()))
theorem L13_0_ok (a0 : Listeners) (a2 : Event) (a4 : Sl (Effects)) (r5 : Sl (Call) × Listeners × Event × Bool × Int) (x0 : Int) (o : (Int) ⊕ ((Unit) ⊕ (Unit))) (h : L13_0_step a0 a2 a4 r5 x0 = some o) : Wp prog c13B0 (L13_0_S a0 a2 a4 r5 x0) (LPost 0 (L13_0_S a0 a2 a4 r5) (L13_0_F a0 a2 a4 r5) o) := by
  unfold L13_0_step at h
  delta c13B0 L13_0_S
  try simp only [go_sem]
  first | refine WBr_splitN (fun hc11 => ?_) (fun hc12 => ?_) | refine WBr_split (fun hc11 => ?_) (fun hc12 => ?_)
  · rw [if_pos (show (decide ((IntKind.wrap .i64 (x0 + 1)) < (r5.1.l.length : Int))) = true by first | exact hc11 | simpa using hc11)] at h
    try simp only [go_sem]
    obtain ⟨y13, hy14, h⟩ := Option.bind_eq_some_iff.1 h
    try simp only [go_sem, rd_pos hy14, rd_ge hy14, rd_map eCall hy14]
    obtain ⟨r15, hr16, h⟩ := Option.bind_eq_some_iff.1 h
    replace hr16 := dec_some hr16
    first | refine WVal_pc hr16 ?_ | (simp only [eT2_eq, eT3_eq, eT4_eq, eT5_eq] at hr16; refine WVal_pc hr16 ?_)
    try simp only [go_sem, rd_pos hy14, rd_ge hy14, rd_map eCall hy14]
    first | refine WBr_splitN (fun hc17 => ?_) (fun hc18 => ?_) | refine WBr_split (fun hc17 => ?_) (fun hc18 => ?_)
    · rw [if_pos (show r15 = true by first | exact hc17 | simpa using hc17)] at h
      try simp only [go_sem, rd_pos hy14, rd_ge hy14, rd_map eCall hy14]
      cases h
      exact ⟨rfl, by simp, Up.of (N := 51) (N' := 64) [] rfl rfl (by decide) (.set (.d _) RegsR.none) BlksR.at⟩
    · rw [if_neg (show ¬ r15 = true by first | (rw [hc18]; exact Bool.false_ne_true) | simpa using hc18 | (simp at hc18 ⊢; omega))] at h
      try simp only [go_sem, rd_pos hy14, rd_ge hy14, rd_map eCall hy14]
      obtain ⟨r19, hr20, h⟩ := Option.bind_eq_some_iff.1 h
      replace hr20 := dec_some hr20
      first | refine WVal_pc hr20 ?_ | (simp only [eT2_eq, eT3_eq, eT4_eq, eT5_eq] at hr20; refine WVal_pc hr20 ?_)
      try simp only [go_sem, rd_pos hy14, rd_ge hy14, rd_map eCall hy14]
      obtain ⟨y21, hy22, h⟩ := Option.bind_eq_some_iff.1 h
      try simp only [go_sem, rd_pos hy14, rd_ge hy14, rd_map eCall hy14, rd_pos hy22, rd_ge hy22, rd_map eCall hy22]
      obtain ⟨r23, hr24, h⟩ := Option.bind_eq_some_iff.1 h
      replace hr24 := dec_some hr24
      first | refine WVal_pc hr24 ?_ | (simp only [eT2_eq, eT3_eq, eT4_eq, eT5_eq] at hr24; refine WVal_pc hr24 ?_)
      try simp only [go_sem, rd_pos hy14, rd_ge hy14, rd_map eCall hy14, rd_pos hy22, rd_ge hy22, rd_map eCall hy22]
      refine WGuard_pure (v := .d (.bool r23.2)) (fun hb44 => by skip; simp only [go_sem, rd_pos hy14, rd_ge hy14, rd_map eCall hy14, rd_pos hy22, rd_ge hy22, rd_map eCall hy22, hc11, hc18, hb44]) ?_
      try simp only [go_sem, rd_pos hy14, rd_ge hy14, rd_map eCall hy14, rd_pos hy22, rd_ge hy22, rd_map eCall hy22]
      refine WGuard_pure (v := .d (.bool (!r23.2))) (fun hb43 => by skip; simp only [go_sem, rd_pos hy14, rd_ge hy14, rd_map eCall hy14, rd_pos hy22, rd_ge hy22, rd_map eCall hy22, hc11, hc18, hb43]) ?_
      try simp only [go_sem, rd_pos hy14, rd_ge hy14, rd_map eCall hy14, rd_pos hy22, rd_ge hy22, rd_map eCall hy22]
      refine WGuard_pure (v := .d (.list a4.n (a4.l.map eEffects))) (fun hb42 => by skip; simp only [go_sem, rd_pos hy14, rd_ge hy14, rd_map eCall hy14, rd_pos hy22, rd_ge hy22, rd_map eCall hy22, hc11, hc18, hb42]) ?_
      try simp only [go_sem, rd_pos hy14, rd_ge hy14, rd_map eCall hy14, rd_pos hy22, rd_ge hy22, rd_map eCall hy22]
      refine WGuard_pure (v := .d (.list r5.1.n (r5.1.l.map eCall))) (fun hb41 => by skip; simp only [go_sem, rd_pos hy14, rd_ge hy14, rd_map eCall hy14, rd_pos hy22, rd_ge hy22, rd_map eCall hy22, hc11, hc18, hb41]) ?_
      try simp only [go_sem, rd_pos hy14, rd_ge hy14, rd_map eCall hy14, rd_pos hy22, rd_ge hy22, rd_map eCall hy22]
      refine WGuard_pure (v := .d (.int .i64 x0)) (fun hb40 => by skip; simp only [go_sem, rd_pos hy14, rd_ge hy14, rd_map eCall hy14, rd_pos hy22, rd_ge hy22, rd_map eCall hy22, hc11, hc18, hb40]) ?_
      try simp only [go_sem, rd_pos hy14, rd_ge hy14, rd_map eCall hy14, rd_pos hy22, rd_ge hy22, rd_map eCall hy22]
      first | refine WGuard_splitN (fun hc25 => ?_) (fun hc26 => ?_) | refine WGuard_split (fun hc25 => ?_) (fun hc26 => ?_)
      · rw [if_pos (show (!(bif (!r19.2) then true else (!r23.2))) = true by first | exact hc25 | simpa using hc25)] at h
        try simp only [go_sem, rd_pos hy14, rd_ge hy14, rd_map eCall hy14, rd_pos hy22, rd_ge hy22, rd_map eCall hy22, hc25]
        obtain ⟨r27, hr28, h⟩ := Option.bind_eq_some_iff.1 h
        replace hr28 := dec_some hr28
        first | refine WVal_pc hr28 ?_ | (simp only [eT2_eq, eT3_eq, eT4_eq, eT5_eq] at hr28; refine WVal_pc hr28 ?_)
        try simp only [go_sem, rd_pos hy14, rd_ge hy14, rd_map eCall hy14, rd_pos hy22, rd_ge hy22, rd_map eCall hy22]
        refine WGuard_pure (v := .d (.list r5.1.n (r5.1.l.map eCall))) (fun hb39 => by skip; simp only [go_sem, rd_pos hy14, rd_ge hy14, rd_map eCall hy14, rd_pos hy22, rd_ge hy22, rd_map eCall hy22, hc11, hc18, hc25, hb39]) ?_
        try simp only [go_sem, rd_pos hy14, rd_ge hy14, rd_map eCall hy14, rd_pos hy22, rd_ge hy22, rd_map eCall hy22]
        refine WGuard_pure (v := .d (.int .i64 x0)) (fun hb38 => by skip; simp only [go_sem, rd_pos hy14, rd_ge hy14, rd_map eCall hy14, rd_pos hy22, rd_ge hy22, rd_map eCall hy22, hc11, hc18, hc25, hb38]) ?_
        try simp only [go_sem, rd_pos hy14, rd_ge hy14, rd_map eCall hy14, rd_pos hy22, rd_ge hy22, rd_map eCall hy22]
        first | refine WGuard_splitN (fun hc29 => ?_) (fun hc30 => ?_) | refine WGuard_split (fun hc29 => ?_) (fun hc30 => ?_)
        · rw [if_pos (show r27 = true by first | exact hc29 | simpa using hc29)] at h
          try simp only [go_sem, rd_pos hy14, rd_ge hy14, rd_map eCall hy14, rd_pos hy22, rd_ge hy22, rd_map eCall hy22, hc29]
          refine WGuard_pure (v := .ptr 73 0 4) (fun hb37 => by skip; simp only [go_sem, rd_pos hy14, rd_ge hy14, rd_map eCall hy14, rd_pos hy22, rd_ge hy22, rd_map eCall hy22, hc11, hc18, hc25, hc29, hb37]) ?_
          try simp only [go_sem, rd_pos hy14, rd_ge hy14, rd_map eCall hy14, rd_pos hy22, rd_ge hy22, rd_map eCall hy22]
          refine WGuard_pure (v := .d (.bool r19.1.capture)) (fun hb36 => by skip; simp only [go_sem, rd_pos hy14, rd_ge hy14, rd_map eCall hy14, rd_pos hy22, rd_ge hy22, rd_map eCall hy22, hc11, hc18, hc25, hc29, hb36]) ?_
          try simp only [go_sem, rd_pos hy14, rd_ge hy14, rd_map eCall hy14, rd_pos hy22, rd_ge hy22, rd_map eCall hy22]
          refine WGuard_pure (v := .ptr 87 0 4) (fun hb35 => by skip; simp only [go_sem, rd_pos hy14, rd_ge hy14, rd_map eCall hy14, rd_pos hy22, rd_ge hy22, rd_map eCall hy22, hc11, hc18, hc25, hc29, hb35]) ?_
          try simp only [go_sem, rd_pos hy14, rd_ge hy14, rd_map eCall hy14, rd_pos hy22, rd_ge hy22, rd_map eCall hy22]
          refine WGuard_pure (v := .d (.bool r23.1.capture)) (fun hb34 => by skip; simp only [go_sem, rd_pos hy14, rd_ge hy14, rd_map eCall hy14, rd_pos hy22, rd_ge hy22, rd_map eCall hy22, hc11, hc18, hc25, hc29, hb34]) ?_
          try simp only [go_sem, rd_pos hy14, rd_ge hy14, rd_map eCall hy14, rd_pos hy22, rd_ge hy22, rd_map eCall hy22]
          refine WGuard_pure (v := .d (.bool (!(r19.1.capture == r23.1.capture)))) (fun hb33 => by skip; simp only [go_sem, rd_pos hy14, rd_ge hy14, rd_map eCall hy14, rd_pos hy22, rd_ge hy22, rd_map eCall hy22, hc11, hc18, hc25, hc29, hb33]) ?_
          try simp only [go_sem, rd_pos hy14, rd_ge hy14, rd_map eCall hy14, rd_pos hy22, rd_ge hy22, rd_map eCall hy22]
          first | refine WBr_splitN (fun hc31 => ?_) (fun hc32 => ?_) | refine WBr_split (fun hc31 => ?_) (fun hc32 => ?_)
          · rw [if_pos (show (bif (!(y13.step == y21.step)) then true else (!(r19.1.capture == r23.1.capture))) = true by first | exact hc31 | simpa using hc31)] at h
            try simp only [go_sem, rd_pos hy14, rd_ge hy14, rd_map eCall hy14, rd_pos hy22, rd_ge hy22, rd_map eCall hy22]
            cases h
            exact ⟨rfl, by simp, Up.of (N := 51) (N' := 127) [] rfl rfl (by decide) (.set (.d _) RegsR.none) BlksR.at⟩
          · rw [if_neg (show ¬ (bif (!(y13.step == y21.step)) then true else (!(r19.1.capture == r23.1.capture))) = true by first | (rw [hc32]; exact Bool.false_ne_true) | simpa using hc32 | (simp at hc32 ⊢; omega))] at h
            try simp only [go_sem, rd_pos hy14, rd_ge hy14, rd_map eCall hy14, rd_pos hy22, rd_ge hy22, rd_map eCall hy22]
            cases h
            exact ⟨rfl, Up.of (N := 51) (N' := 129) [] rfl rfl (by decide) (.set (.d _) (.set (.d _) (.set (.ptr' rfl) (.set (.ptr' rfl) (.set (.d _) RegsR.none))))) (.set BlkR.refl_d (.set BlkR.refl_d BlksR.at))⟩
        · rw [if_neg (show ¬ r27 = true by first | (rw [hc30]; exact Bool.false_ne_true) | simpa using hc30 | (simp at hc30 ⊢; omega))] at h
          try simp only [go_sem, rd_pos hy14, rd_ge hy14, rd_map eCall hy14, rd_pos hy22, rd_ge hy22, rd_map eCall hy22, hc30]
          cases h
          exact ⟨rfl, Up.of (N := 51) (N' := 129) [] rfl rfl (by decide) (.set (.d _) (.set (.d _) (.set (.ptr' rfl) (.set (.ptr' rfl) (.set (.d _) RegsR.none))))) (.set BlkR.refl_d (.set BlkR.refl_d BlksR.at))⟩
      · rw [if_neg (show ¬ (!(bif (!r19.2) then true else (!r23.2))) = true by first | (rw [hc26]; exact Bool.false_ne_true) | simpa using hc26 | (simp at hc26 ⊢; omega))] at h
        try simp only [go_sem, rd_pos hy14, rd_ge hy14, rd_map eCall hy14, rd_pos hy22, rd_ge hy22, rd_map eCall hy22, hc26]
        cases h
        exact ⟨rfl, by simp, Up.of (N := 51) (N' := 127) [] rfl rfl (by decide) (.set (.d _) RegsR.none) BlksR.at⟩
  · rw [if_neg (show ¬ (decide ((IntKind.wrap .i64 (x0 + 1)) < (r5.1.l.length : Int))) = true by first | (rw [hc12]; exact Bool.false_ne_true) | simpa using hc12 | (simp at hc12 ⊢; omega))] at h
    try simp only [go_sem]
    cases h
    exact ⟨rfl, by simp, Up.of (N := 51) (N' := 56) [] rfl rfl (by decide) (.set (.d _) (.set (.ptr' rfl) RegsR.none)) (.set BlkR.refl_d BlksR.at)⟩
noncomputable def P13 (a0 : Listeners) (a1 : Sl (Step)) (a2 : Event) (a3 : Bool) (a4 : Sl (Effects)) : Option (Bool) :=
  (dec D.bool (pc prog 44 [])).bind fun r1 =>
  if (!r1) = true then
    some false
  else
    (dec (eT5 (eSl eCall) eListeners eEvent D.bool (D.int .i64)) (pc prog 50 [eListeners a0, .list a1.n (a1.l.map eStep), eEvent a2, .bool a3, .list a4.n (a4.l.map eEffects)])).bind fun r5 =>
    if (!(r5.2.2.2.2 == 0)) = true then
      some ((r5.1.l.length : Int) == 0)
    else
      if (bif (bif (bif (bif (bif r5.2.2.1.dispatching then true else r5.2.2.1.stop) then true else r5.2.2.1.stopNow) then true else r5.2.2.1.passive) then true else (!(r5.2.2.1.phase == 0))) then true else (!(r5.2.2.1.current == 0))) = true then
        some false
      else
        (loopV (L13_0_step a0 a2 a4 r5) 0).bind fun r45 =>
        match r45 with
        | (.inl q47) =>
          some (bif (!a2.stop) then true else ((r5.1.l.length : Int) == 0))
        | (.inr q51) =>
          some false
theorem ok13 (a0 : Listeners) (a1 : Sl (Step)) (a2 : Event) (a3 : Bool) (a4 : Sl (Effects)) (r : Bool) (h : P13 a0 a1 a2 a3 a4 = some r) : pc prog 13 [eListeners a0, .list a1.n (a1.l.map eStep), eEvent a2, .bool a3, .list a4.n (a4.l.map eEffects)] = some (D.bool r) := by
  unfold P13 at h
  refine pc_of (fn := c13) rfl rfl ?_
  delta c13
  try simp only [go_sem]
  obtain ⟨r1, hr2, h⟩ := Option.bind_eq_some_iff.1 h
  replace hr2 := dec_some hr2
  first | refine WVal_pc hr2 ?_ | (simp only [eT2_eq, eT3_eq, eT4_eq, eT5_eq] at hr2; refine WVal_pc hr2 ?_)
  try simp only [go_sem]
  first | refine WBr_splitN (fun hc3 => ?_) (fun hc4 => ?_) | refine WBr_split (fun hc3 => ?_) (fun hc4 => ?_)
  · rw [if_pos (show (!r1) = true by first | exact hc3 | simpa using hc3)] at h
    try simp only [go_sem]
    cases h
    first | rfl | (simp only [go_sem]; done) | (simp only [go_sem]; rfl) | (simp [eListeners, eListener, eEvent, eRun, eCall, eStep, eEffects, elisten_place, hc3]; done)
  · rw [if_neg (show ¬ (!r1) = true by first | (rw [hc4]; exact Bool.false_ne_true) | simpa using hc4 | (simp at hc4 ⊢; omega))] at h
    try simp only [go_sem]
    obtain ⟨r5, hr6, h⟩ := Option.bind_eq_some_iff.1 h
    replace hr6 := dec_some hr6
    first | refine WVal_pc hr6 ?_ | (simp only [eT2_eq, eT3_eq, eT4_eq, eT5_eq] at hr6; refine WVal_pc hr6 ?_)
    try simp only [go_sem]
    first | refine WBr_splitN (fun hc7 => ?_) (fun hc8 => ?_) | refine WBr_split (fun hc7 => ?_) (fun hc8 => ?_)
    · rw [if_pos (show (!(r5.2.2.2.2 == 0)) = true by first | exact hc7 | simpa using hc7)] at h
      try simp only [go_sem]
      cases h
      first | rfl | (simp only [go_sem]; done) | (simp only [go_sem]; rfl) | (simp [eListeners, eListener, eEvent, eRun, eCall, eStep, eEffects, elisten_place, hc4, hc7]; done)
    · rw [if_neg (show ¬ (!(r5.2.2.2.2 == 0)) = true by first | (rw [hc8]; exact Bool.false_ne_true) | simpa using hc8 | (simp at hc8 ⊢; omega))] at h
      try simp only [go_sem]
      refine WGuard_pure (v := .ptr 18 0 5) (fun hb63 => by skip; simp only [go_sem, hc4, hc8, hb63]) ?_
      try simp only [go_sem]
      refine WGuard_pure (v := .d (.bool r5.2.2.1.stop)) (fun hb62 => by skip; simp only [go_sem, hc4, hc8, hb62]) ?_
      try simp only [go_sem]
      refine WGuard_pure (v := .ptr 18 0 6) (fun hb61 => by skip; simp only [go_sem, hc4, hc8, hb61]) ?_
      try simp only [go_sem]
      refine WGuard_pure (v := .d (.bool r5.2.2.1.stopNow)) (fun hb60 => by skip; simp only [go_sem, hc4, hc8, hb60]) ?_
      try simp only [go_sem]
      refine WGuard_pure (v := .ptr 18 0 7) (fun hb59 => by skip; simp only [go_sem, hc4, hc8, hb59]) ?_
      try simp only [go_sem]
      refine WGuard_pure (v := .d (.bool r5.2.2.1.passive)) (fun hb58 => by skip; simp only [go_sem, hc4, hc8, hb58]) ?_
      try simp only [go_sem]
      refine WGuard_pure (v := .ptr 18 0 9) (fun hb57 => by skip; simp only [go_sem, hc4, hc8, hb57]) ?_
      try simp only [go_sem]
      refine WGuard_pure (v := .d (.int .u8 r5.2.2.1.phase)) (fun hb56 => by skip; simp only [go_sem, hc4, hc8, hb56]) ?_
      try simp only [go_sem]
      refine WGuard_pure (v := .d (.bool (!(r5.2.2.1.phase == 0)))) (fun hb55 => by skip; simp only [go_sem, hc4, hc8, hb55]) ?_
      try simp only [go_sem]
      refine WGuard_pure (v := .ptr 18 0 12) (fun hb54 => by skip; simp only [go_sem, hc4, hc8, hb54]) ?_
      try simp only [go_sem]
      refine WGuard_pure (v := .d (.int .i64 r5.2.2.1.current)) (fun hb53 => by skip; simp only [go_sem, hc4, hc8, hb53]) ?_
      try simp only [go_sem]
      refine WGuard_pure (v := .d (.bool (!(r5.2.2.1.current == 0)))) (fun hb52 => by skip; simp only [go_sem, hc4, hc8, hb52]) ?_
      try simp only [go_sem]
      first | refine WBr_splitN (fun hc9 => ?_) (fun hc10 => ?_) | refine WBr_split (fun hc9 => ?_) (fun hc10 => ?_)
      · rw [if_pos (show (bif (bif (bif (bif (bif r5.2.2.1.dispatching then true else r5.2.2.1.stop) then true else r5.2.2.1.stopNow) then true else r5.2.2.1.passive) then true else (!(r5.2.2.1.phase == 0))) then true else (!(r5.2.2.1.current == 0))) = true by first | exact hc9 | simpa using hc9)] at h
        try simp only [go_sem]
        cases h
        first | rfl | (simp only [go_sem]; done) | (simp only [go_sem]; rfl) | (simp [eListeners, eListener, eEvent, eRun, eCall, eStep, eEffects, elisten_place, hc4, hc8, hc9]; done)
      · rw [if_neg (show ¬ (bif (bif (bif (bif (bif r5.2.2.1.dispatching then true else r5.2.2.1.stop) then true else r5.2.2.1.stopNow) then true else r5.2.2.1.passive) then true else (!(r5.2.2.1.phase == 0))) then true else (!(r5.2.2.1.current == 0))) = true by first | (rw [hc10]; exact Bool.false_ne_true) | simpa using hc10 | (simp at hc10 ⊢; omega))] at h
        try simp only [go_sem]
        obtain ⟨r45, hl46, h⟩ := Option.bind_eq_some_iff.1 h
        refine Wp.loopR locs (n := 0) (a := c13B0) rfl (L13_0_S a0 a2 a4 r5) (L13_0_F a0 a2 a4 r5) (L13_0_ok a0 a2 a4 r5) hl46 ?_ (by (repeat (first | refine Clo.block ?_ | refine Clo.seq locs rfl ?_)); (first | exact Clo.ret | exact Clo.lpost | exact Clo.cpost)) ?_
        · show Up 0 (L13_0_S a0 a2 a4 r5 0) _
          delta L13_0_S
          exact Up.of (N := 51) (N' := 51) [] rfl rfl (by decide) (.set (.d _) (.set (.d _) (.set (.ptr' rfl) (.set (.ptr' rfl) (.set (.d _) RegsR.none))))) (.set BlkR.refl_d (.set BlkR.refl_d BlksR.at))
        · rcases r45 with (q47 | q51)
          · dsimp only at h
            dsimp only [L13_0_F]
            try simp only [go_sem]
            refine WGuard_pure (v := .d (.list r5.1.n (r5.1.l.map eCall))) (fun hb50 => by skip; simp only [go_sem, hc4, hc8, hc10, hb50]) ?_
            try simp only [go_sem]
            refine WGuard_pure (v := .d (.int .i64 (r5.1.l.length : Int))) (fun hb49 => by skip; simp only [go_sem, hc4, hc8, hc10, hb49]) ?_
            try simp only [go_sem]
            refine WGuard_pure (v := .d (.bool ((r5.1.l.length : Int) == 0))) (fun hb48 => by skip; simp only [go_sem, hc4, hc8, hc10, hb48]) ?_
            try simp only [go_sem]
            cases h
            first | rfl | (simp only [go_sem]; done) | (simp only [go_sem]; rfl) | (simp [eListeners, eListener, eEvent, eRun, eCall, eStep, eEffects, elisten_place, hc4, hc8, hc10]; done)
          · dsimp only at h
            dsimp only [L13_0_F]
            try simp only [go_sem]
            cases h
            first | rfl | (simp only [go_sem]; done) | (simp only [go_sem]; rfl) | (simp [eListeners, eListener, eEvent, eRun, eCall, eStep, eEffects, elisten_place, hc4, hc8, hc10]; done)
end Go.Proofs.Ytnijbejobbajfaa.D
