/- Shaken copy of a longer text: what one law needs. Its conditions: none. -/
import Derived.Test.YtnijbejobbajfaaZDDec0
set_option linter.unusedSimpArgs false
set_option linter.unusedVariables false
set_option maxHeartbeats 1000000
namespace Go.Proofs.Ytnijbejobbajfaa.D
open Go.AI
def L54_0_S (a0 : Listeners) (a1 : Int) (x0 : Int) : St := ⟨((((Regs.none.set 1 (.d (.int .i64 a1))).set 2 (.ptr 0 0 0)).set 4 (.ptr 1 0 0)).set 6 (.d (.int .i64 x0))), (((Heap.at 4).set 0 (some (.els 2 [.d (eListeners a0)] 0))).set 1 (some (.els 8 [.d (.agg [.int .i64 (0), .int .i64 (0), .str ([]), .int .i64 (0), .bool false, .bool false, .int .u8 (0), .int .i64 (0)])] 0)))⟩
def L54_0_F (a0 : Listeners) (a1 : Int) : ((Unit) ⊕ (Listener)) → Ex × St := fun r => match r with
  | (.inl r) => (.exit 0, ⟨(Regs.none.set 4 (.ptr 1 0 0)), ((Heap.at 4).set 1 (some (.els 8 [.d (.agg [.int .i64 (0), .int .i64 (0), .str ([]), .int .i64 (0), .bool false, .bool false, .int .u8 (0), .int .i64 (0)])] 0)))⟩)
  | (.inr r) => (.ret, ⟨((Regs.none.set 4 (.ptr 1 0 0)).set 5 (.d (.bool true))), ((Heap.at 4).set 1 (some (.els 8 [.d (eListener r)] 0)))⟩)
noncomputable def L54_0_step (a0 : Listeners) (a1 : Int) (x0 : Int) : Option ((Int) ⊕ ((Unit) ⊕ (Listener))) :=
  if (decide (x0 < (a0.list.l.length : Int))) = true then
    (rd a0.list.l x0).bind fun y3 =>
    if (y3.id == a1) = true then
      some (.inr (.inr y3))
    else
      some (.inl (IntKind.wrap .i64 (x0 + 1)))
  else
    some (.inr (.inl ()))
theorem L54_0_ok (a0 : Listeners) (a1 : Int) (x0 : Int) (o : (Int) ⊕ ((Unit) ⊕ (Listener))) (h : L54_0_step a0 a1 x0 = some o) : Wp prog c54B0 (L54_0_S a0 a1 x0) (LPost 0 (L54_0_S a0 a1) (L54_0_F a0 a1) o) := by
  unfold L54_0_step at h
  delta c54B0 L54_0_S
  try simp only [go_sem]
  first | refine WBr_splitN (fun hc1 => ?_) (fun hc2 => ?_) | refine WBr_split (fun hc1 => ?_) (fun hc2 => ?_)
  · rw [if_pos (show (decide (x0 < (a0.list.l.length : Int))) = true by first | exact hc1 | simpa using hc1)] at h
    try simp only [go_sem]
    obtain ⟨y3, hy4, h⟩ := Option.bind_eq_some_iff.1 h
    try simp only [go_sem, rd_pos hy4, rd_ge hy4, rd_map eListener hy4]
    first | refine WBr_splitN (fun hc5 => ?_) (fun hc6 => ?_) | refine WBr_split (fun hc5 => ?_) (fun hc6 => ?_)
    · rw [if_pos (show (y3.id == a1) = true by first | exact hc5 | simpa using hc5)] at h
      try simp only [go_sem, rd_pos hy4, rd_ge hy4, rd_map eListener hy4]
      cases h
      exact ⟨rfl, by simp, Up.of (N := 4) (N' := 24) [] rfl rfl (by decide) (.set (.d _) (.set (.ptr' rfl) RegsR.none)) (.set BlkR.refl_d BlksR.at)⟩
    · rw [if_neg (show ¬ (y3.id == a1) = true by first | (rw [hc6]; exact Bool.false_ne_true) | simpa using hc6 | (simp at hc6 ⊢; omega))] at h
      try simp only [go_sem, rd_pos hy4, rd_ge hy4, rd_map eListener hy4]
      cases h
      exact ⟨rfl, Up.of (N := 4) (N' := 20) [] rfl rfl (by decide) (.set (.d _) (.set (.ptr' rfl) (.set (.ptr' rfl) (.set (.d _) RegsR.none)))) (.set BlkR.refl_d (.set BlkR.refl_d BlksR.at))⟩
  · rw [if_neg (show ¬ (decide (x0 < (a0.list.l.length : Int))) = true by first | (rw [hc2]; exact Bool.false_ne_true) | simpa using hc2 | (simp at hc2 ⊢; omega))] at h
    try simp only [go_sem]
    cases h
    exact ⟨rfl, by simp, Up.of (N := 4) (N' := 9) [] rfl rfl (by decide) (.set (.ptr' rfl) RegsR.none) (.set BlkR.refl_d BlksR.at)⟩
noncomputable def P54 (a0 : Listeners) (a1 : Int) : Option (Listener × Bool) :=
  (loopV (L54_0_step a0 a1) 0).bind fun r7 =>
  match r7 with
  | (.inl q9) =>
    some ((⟨0, 0, [], 0, false, false, 0, 0⟩ : Listener), false)
  | (.inr q10) =>
    some (q10, true)
theorem ok54 (a0 : Listeners) (a1 : Int) (r : Listener × Bool) (h : P54 a0 a1 = some r) : pc prog 54 [eListeners a0, .int .i64 a1] = some ((eT2 eListener D.bool) r) := by
  unfold P54 at h
  refine pc_of (fn := c54) rfl rfl ?_
  delta c54
  try simp only [go_sem]
  obtain ⟨r7, hl8, h⟩ := Option.bind_eq_some_iff.1 h
  refine Wp.loopR locs (n := 0) (a := c54B0) rfl (L54_0_S a0 a1) (L54_0_F a0 a1) (L54_0_ok a0 a1) hl8 ?_ (by (repeat (first | refine Clo.block ?_ | refine Clo.seq locs rfl ?_)); (first | exact Clo.ret | exact Clo.lpost | exact Clo.cpost)) ?_
  · show Up 0 (L54_0_S a0 a1 0) _
    delta L54_0_S
    exact Up.of (N := 4) (N' := 4) [] rfl rfl (by decide) (.set (.d _) (.set (.ptr' rfl) (.set (.ptr' rfl) (.set (.d _) RegsR.none)))) (.set BlkR.refl_d (.set BlkR.refl_d BlksR.at))
  · rcases r7 with (q9 | q10)
    · dsimp only at h
      dsimp only [L54_0_F]
      try simp only [go_sem]
      cases h
      first | rfl | (simp only [go_sem]; done) | (simp only [go_sem]; rfl) | (simp [eListeners, eListener, eEvent, eRun, eCall, eStep, eEffects, elisten_place]; done)
    · dsimp only at h
      dsimp only [L54_0_F]
      try simp only [go_sem]
      cases h
      first | rfl | (simp only [go_sem]; done) | (simp only [go_sem]; rfl) | (simp [eListeners, eListener, eEvent, eRun, eCall, eStep, eEffects, elisten_place]; done)
def L55_1_S (a0 : Sl (Effects)) (a2 : Int) (x0 : Int) (x1 : Int) : St := ⟨((((Regs.none.set 0 (.d (.list a0.n (a0.l.map eEffects)))).set 2 (.d (.int .u8 a2))).set 7 (.d (.int .i64 x0))).set 8 (.d (.int .i64 x1))), (Heap.at 14)⟩
def L55_1_F (a0 : Sl (Effects)) (a2 : Int) (x0 : Int) : ((Unit) ⊕ (Unit)) → Ex × St := fun r => match r with
  | (.inl r) => (.exit 2, ⟨Regs.none, (Heap.at 14)⟩)
  | (.inr r) => (.ret, ⟨(Regs.none.set 6 (.d (.bool true))), (Heap.at 14)⟩)
noncomputable def L55_1_step (a0 : Sl (Effects)) (a2 : Int) (x0 : Int) (x1 : Int) : Option ((Int) ⊕ ((Unit) ⊕ (Unit))) :=
  (rd a0.l x0).bind fun y7 =>
  if (decide (x1 < (y7.does.l.length : Int))) = true then
    (rd y7.does.l x1).bind fun y11 =>
    if (y11 == a2) = true then
      some (.inr (.inr ()))
    else
      some (.inl (IntKind.wrap .i64 (x1 + 1)))
  else
    some (.inr (.inl ()))
theorem L55_1_ok (a0 : Sl (Effects)) (a2 : Int) (x0 : Int) (x1 : Int) (o : (Int) ⊕ ((Unit) ⊕ (Unit))) (h : L55_1_step a0 a2 x0 x1 = some o) : Wp prog c55B0 (L55_1_S a0 a2 x0 x1) (LPost 0 (L55_1_S a0 a2 x0) (L55_1_F a0 a2 x0) o) := by
  unfold L55_1_step at h
  delta c55B0 L55_1_S
  try simp only [go_sem]
  obtain ⟨y7, hy8, h⟩ := Option.bind_eq_some_iff.1 h
  try simp only [go_sem, rd_pos hy8, rd_ge hy8, rd_map eEffects hy8]
  first | refine WBr_splitN (fun hc9 => ?_) (fun hc10 => ?_) | refine WBr_split (fun hc9 => ?_) (fun hc10 => ?_)
  · rw [if_pos (show (decide (x1 < (y7.does.l.length : Int))) = true by first | exact hc9 | simpa using hc9)] at h
    try simp only [go_sem, rd_pos hy8, rd_ge hy8, rd_map eEffects hy8]
    obtain ⟨y11, hy12, h⟩ := Option.bind_eq_some_iff.1 h
    try simp only [go_sem, rd_pos hy8, rd_ge hy8, rd_map eEffects hy8, rd_pos hy12, rd_ge hy12, rd_map (D.int .u8) hy12]
    first | refine WBr_splitN (fun hc13 => ?_) (fun hc14 => ?_) | refine WBr_split (fun hc13 => ?_) (fun hc14 => ?_)
    · rw [if_pos (show (y11 == a2) = true by first | exact hc13 | simpa using hc13)] at h
      try simp only [go_sem, rd_pos hy8, rd_ge hy8, rd_map eEffects hy8, rd_pos hy12, rd_ge hy12, rd_map (D.int .u8) hy12]
      cases h
      exact ⟨rfl, by simp, Up.of (N := 14) (N' := 33) [] rfl rfl (by decide) (.set (.d _) RegsR.none) BlksR.at⟩
    · rw [if_neg (show ¬ (y11 == a2) = true by first | (rw [hc14]; exact Bool.false_ne_true) | simpa using hc14 | (simp at hc14 ⊢; omega))] at h
      try simp only [go_sem, rd_pos hy8, rd_ge hy8, rd_map eEffects hy8, rd_pos hy12, rd_ge hy12, rd_map (D.int .u8) hy12]
      cases h
      exact ⟨rfl, Up.of (N := 14) (N' := 35) [] rfl rfl (by decide) (.set (.d _) (.set (.d _) (.set (.d _) (.set (.d _) RegsR.none)))) BlksR.at⟩
  · rw [if_neg (show ¬ (decide (x1 < (y7.does.l.length : Int))) = true by first | (rw [hc10]; exact Bool.false_ne_true) | simpa using hc10 | (simp at hc10 ⊢; omega))] at h
    try simp only [go_sem, rd_pos hy8, rd_ge hy8, rd_map eEffects hy8]
    cases h
    exact ⟨rfl, by simp, Up.of (N := 14) (N' := 22) [] rfl rfl (by decide) RegsR.none BlksR.at⟩
def L55_0_S (a0 : Sl (Effects)) (a1 : Int) (a2 : Int) (x0 : Int) : St := ⟨((((Regs.none.set 0 (.d (.list a0.n (a0.l.map eEffects)))).set 1 (.d (.int .i64 a1))).set 2 (.d (.int .u8 a2))).set 7 (.d (.int .i64 x0))), (Heap.at 2)⟩
def L55_0_F (a0 : Sl (Effects)) (a1 : Int) (a2 : Int) : ((Unit) ⊕ (Bool)) → Ex × St := fun r => match r with
  | (.inl r) => (.exit 0, ⟨Regs.none, (Heap.at 2)⟩)
  | (.inr r) => (.ret, ⟨(Regs.none.set 6 (.d (.bool r))), (Heap.at 2)⟩)
noncomputable def L55_0_step (a0 : Sl (Effects)) (a1 : Int) (a2 : Int) (x0 : Int) : Option ((Int) ⊕ ((Unit) ⊕ (Bool))) :=
  if (decide (x0 < (a0.l.length : Int))) = true then
    (rd a0.l x0).bind fun y3 =>
    if (!(y3.callback == a1)) = true then
      some (.inl (IntKind.wrap .i64 (x0 + 1)))
    else
      (loopV (L55_1_step a0 a2 x0) 0).bind fun r15 =>
      match r15 with
      | (.inl q17) =>
        some (.inr (.inr false))
      | (.inr q18) =>
        some (.inr (.inr true))
  else
    some (.inr (.inl ()))
theorem L55_0_ok (a0 : Sl (Effects)) (a1 : Int) (a2 : Int) (x0 : Int) (o : (Int) ⊕ ((Unit) ⊕ (Bool))) (h : L55_0_step a0 a1 a2 x0 = some o) : Wp prog c55B1 (L55_0_S a0 a1 a2 x0) (LPost 0 (L55_0_S a0 a1 a2) (L55_0_F a0 a1 a2) o) := by
  unfold L55_0_step at h
  delta c55B1 L55_0_S
  try simp only [go_sem]
  first | refine WBr_splitN (fun hc1 => ?_) (fun hc2 => ?_) | refine WBr_split (fun hc1 => ?_) (fun hc2 => ?_)
  · rw [if_pos (show (decide (x0 < (a0.l.length : Int))) = true by first | exact hc1 | simpa using hc1)] at h
    try simp only [go_sem]
    obtain ⟨y3, hy4, h⟩ := Option.bind_eq_some_iff.1 h
    try simp only [go_sem, rd_pos hy4, rd_ge hy4, rd_map eEffects hy4]
    first | refine WBr_splitN (fun hc5 => ?_) (fun hc6 => ?_) | refine WBr_split (fun hc5 => ?_) (fun hc6 => ?_)
    · rw [if_pos (show (!(y3.callback == a1)) = true by first | exact hc5 | simpa using hc5)] at h
      try simp only [go_sem, rd_pos hy4, rd_ge hy4, rd_map eEffects hy4]
      cases h
      exact ⟨rfl, Up.of (N := 2) (N' := 16) [] rfl rfl (by decide) (.set (.d _) (.set (.d _) (.set (.d _) (.set (.d _) RegsR.none)))) BlksR.at⟩
    · rw [if_neg (show ¬ (!(y3.callback == a1)) = true by first | (rw [hc6]; exact Bool.false_ne_true) | simpa using hc6 | (simp at hc6 ⊢; omega))] at h
      try simp only [go_sem, rd_pos hy4, rd_ge hy4, rd_map eEffects hy4]
      obtain ⟨r15, hl16, h⟩ := Option.bind_eq_some_iff.1 h
      refine Wp.loopR locs (n := 0) (a := c55B0) rfl (L55_1_S a0 a2 x0) (L55_1_F a0 a2 x0) (L55_1_ok a0 a2 x0) hl16 ?_ (by (repeat (first | refine Clo.block ?_ | refine Clo.seq locs rfl ?_)); (first | exact Clo.ret | exact Clo.lpost | exact Clo.cpost)) ?_
      · show Up 0 (L55_1_S a0 a2 x0 0) _
        delta L55_1_S
        exact Up.of (N := 14) (N' := 14) [] rfl rfl (by decide) (.set (.d _) (.set (.d _) (.set (.d _) (.set (.d _) RegsR.none)))) BlksR.at
      · rcases r15 with (q17 | q18)
        · dsimp only at h
          dsimp only [L55_1_F]
          try simp only [go_sem, rd_pos hy4, rd_ge hy4, rd_map eEffects hy4]
          cases h
          exact ⟨rfl, by simp, Up.of (N := 2) (N' := 15) [] rfl rfl (by decide) (.set (.d _) RegsR.none) BlksR.at⟩
        · dsimp only at h
          dsimp only [L55_1_F]
          try simp only [go_sem, rd_pos hy4, rd_ge hy4, rd_map eEffects hy4]
          cases h
          exact ⟨rfl, by simp, Up.of (N := 2) (N' := 14) [] rfl rfl (by decide) (.set (.d _) RegsR.none) BlksR.at⟩
  · rw [if_neg (show ¬ (decide (x0 < (a0.l.length : Int))) = true by first | (rw [hc2]; exact Bool.false_ne_true) | simpa using hc2 | (simp at hc2 ⊢; omega))] at h
    try simp only [go_sem]
    cases h
    exact ⟨rfl, by simp, Up.of (N := 2) (N' := 6) [] rfl rfl (by decide) RegsR.none BlksR.at⟩
noncomputable def P55 (a0 : Sl (Effects)) (a1 : Int) (a2 : Int) : Option (Bool) :=
  (loopV (L55_0_step a0 a1 a2) 0).bind fun r19 =>
  match r19 with
  | (.inl q21) =>
    some false
  | (.inr q22) =>
    some q22
theorem ok55 (a0 : Sl (Effects)) (a1 : Int) (a2 : Int) (r : Bool) (h : P55 a0 a1 a2 = some r) : pc prog 55 [.list a0.n (a0.l.map eEffects), .int .i64 a1, .int .u8 a2] = some (D.bool r) := by
  unfold P55 at h
  refine pc_of (fn := c55) rfl rfl ?_
  delta c55
  try simp only [go_sem]
  obtain ⟨r19, hl20, h⟩ := Option.bind_eq_some_iff.1 h
  refine Wp.loopR locs (n := 0) (a := c55B1) rfl (L55_0_S a0 a1 a2) (L55_0_F a0 a1 a2) (L55_0_ok a0 a1 a2) hl20 ?_ (by (repeat (first | refine Clo.block ?_ | refine Clo.seq locs rfl ?_)); (first | exact Clo.ret | exact Clo.lpost | exact Clo.cpost)) ?_
  · show Up 0 (L55_0_S a0 a1 a2 0) _
    delta L55_0_S
    exact Up.of (N := 2) (N' := 2) [] rfl rfl (by decide) (.set (.d _) (.set (.d _) (.set (.d _) (.set (.d _) RegsR.none)))) BlksR.at
  · rcases r19 with (q21 | q22)
    · dsimp only at h
      dsimp only [L55_0_F]
      try simp only [go_sem]
      cases h
      first | rfl | (simp only [go_sem]; done) | (simp only [go_sem]; rfl) | (simp [eListeners, eListener, eEvent, eRun, eCall, eStep, eEffects, elisten_place]; done)
    · dsimp only at h
      dsimp only [L55_0_F]
      try simp only [go_sem]
      cases h
      first | rfl | (simp only [go_sem]; done) | (simp only [go_sem]; rfl) | (simp [eListeners, eListener, eEvent, eRun, eCall, eStep, eEffects, elisten_place]; done)
def L56_1_S (a0 : Sl (Effects)) (a2 : Int) (x0 : Int) (x1 : Int) : St := ⟨((((Regs.none.set 0 (.d (.list a0.n (a0.l.map eEffects)))).set 2 (.d (.int .i64 a2))).set 7 (.d (.int .i64 x0))).set 8 (.d (.int .i64 x1))), (Heap.at 14)⟩
def L56_1_F (a0 : Sl (Effects)) (a2 : Int) (x0 : Int) : ((Unit) ⊕ (Unit)) → Ex × St := fun r => match r with
  | (.inl r) => (.exit 2, ⟨Regs.none, (Heap.at 14)⟩)
  | (.inr r) => (.ret, ⟨(Regs.none.set 6 (.d (.bool true))), (Heap.at 14)⟩)
noncomputable def L56_1_step (a0 : Sl (Effects)) (a2 : Int) (x0 : Int) (x1 : Int) : Option ((Int) ⊕ ((Unit) ⊕ (Unit))) :=
  (rd a0.l x0).bind fun y7 =>
  if (decide (x1 < (y7.gone.l.length : Int))) = true then
    (rd y7.gone.l x1).bind fun y11 =>
    if (y11 == a2) = true then
      some (.inr (.inr ()))
    else
      some (.inl (IntKind.wrap .i64 (x1 + 1)))
  else
    some (.inr (.inl ()))
theorem L56_1_ok (a0 : Sl (Effects)) (a2 : Int) (x0 : Int) (x1 : Int) (o : (Int) ⊕ ((Unit) ⊕ (Unit))) (h : L56_1_step a0 a2 x0 x1 = some o) : Wp prog c56B0 (L56_1_S a0 a2 x0 x1) (LPost 0 (L56_1_S a0 a2 x0) (L56_1_F a0 a2 x0) o) := by
  unfold L56_1_step at h
  delta c56B0 L56_1_S
  try simp only [go_sem]
  obtain ⟨y7, hy8, h⟩ := Option.bind_eq_some_iff.1 h
  try simp only [go_sem, rd_pos hy8, rd_ge hy8, rd_map eEffects hy8]
  first | refine WBr_splitN (fun hc9 => ?_) (fun hc10 => ?_) | refine WBr_split (fun hc9 => ?_) (fun hc10 => ?_)
  · rw [if_pos (show (decide (x1 < (y7.gone.l.length : Int))) = true by first | exact hc9 | simpa using hc9)] at h
    try simp only [go_sem, rd_pos hy8, rd_ge hy8, rd_map eEffects hy8]
    obtain ⟨y11, hy12, h⟩ := Option.bind_eq_some_iff.1 h
    try simp only [go_sem, rd_pos hy8, rd_ge hy8, rd_map eEffects hy8, rd_pos hy12, rd_ge hy12, rd_map (D.int .i64) hy12]
    first | refine WBr_splitN (fun hc13 => ?_) (fun hc14 => ?_) | refine WBr_split (fun hc13 => ?_) (fun hc14 => ?_)
    · rw [if_pos (show (y11 == a2) = true by first | exact hc13 | simpa using hc13)] at h
      try simp only [go_sem, rd_pos hy8, rd_ge hy8, rd_map eEffects hy8, rd_pos hy12, rd_ge hy12, rd_map (D.int .i64) hy12]
      cases h
      exact ⟨rfl, by simp, Up.of (N := 14) (N' := 33) [] rfl rfl (by decide) (.set (.d _) RegsR.none) BlksR.at⟩
    · rw [if_neg (show ¬ (y11 == a2) = true by first | (rw [hc14]; exact Bool.false_ne_true) | simpa using hc14 | (simp at hc14 ⊢; omega))] at h
      try simp only [go_sem, rd_pos hy8, rd_ge hy8, rd_map eEffects hy8, rd_pos hy12, rd_ge hy12, rd_map (D.int .i64) hy12]
      cases h
      exact ⟨rfl, Up.of (N := 14) (N' := 35) [] rfl rfl (by decide) (.set (.d _) (.set (.d _) (.set (.d _) (.set (.d _) RegsR.none)))) BlksR.at⟩
  · rw [if_neg (show ¬ (decide (x1 < (y7.gone.l.length : Int))) = true by first | (rw [hc10]; exact Bool.false_ne_true) | simpa using hc10 | (simp at hc10 ⊢; omega))] at h
    try simp only [go_sem, rd_pos hy8, rd_ge hy8, rd_map eEffects hy8]
    cases h
    exact ⟨rfl, by simp, Up.of (N := 14) (N' := 22) [] rfl rfl (by decide) RegsR.none BlksR.at⟩
def L56_0_S (a0 : Sl (Effects)) (a1 : Int) (a2 : Int) (x0 : Int) : St := ⟨((((Regs.none.set 0 (.d (.list a0.n (a0.l.map eEffects)))).set 1 (.d (.int .i64 a1))).set 2 (.d (.int .i64 a2))).set 7 (.d (.int .i64 x0))), (Heap.at 2)⟩
def L56_0_F (a0 : Sl (Effects)) (a1 : Int) (a2 : Int) : ((Unit) ⊕ (Bool)) → Ex × St := fun r => match r with
  | (.inl r) => (.exit 0, ⟨Regs.none, (Heap.at 2)⟩)
  | (.inr r) => (.ret, ⟨(Regs.none.set 6 (.d (.bool r))), (Heap.at 2)⟩)
noncomputable def L56_0_step (a0 : Sl (Effects)) (a1 : Int) (a2 : Int) (x0 : Int) : Option ((Int) ⊕ ((Unit) ⊕ (Bool))) :=
  if (decide (x0 < (a0.l.length : Int))) = true then
    (rd a0.l x0).bind fun y3 =>
    if (!(y3.callback == a1)) = true then
      some (.inl (IntKind.wrap .i64 (x0 + 1)))
    else
      (loopV (L56_1_step a0 a2 x0) 0).bind fun r15 =>
      match r15 with
      | (.inl q17) =>
        some (.inr (.inr false))
      | (.inr q18) =>
        some (.inr (.inr true))
  else
    some (.inr (.inl ()))
theorem L56_0_ok (a0 : Sl (Effects)) (a1 : Int) (a2 : Int) (x0 : Int) (o : (Int) ⊕ ((Unit) ⊕ (Bool))) (h : L56_0_step a0 a1 a2 x0 = some o) : Wp prog c56B1 (L56_0_S a0 a1 a2 x0) (LPost 0 (L56_0_S a0 a1 a2) (L56_0_F a0 a1 a2) o) := by
  unfold L56_0_step at h
  delta c56B1 L56_0_S
  try simp only [go_sem]
  first | refine WBr_splitN (fun hc1 => ?_) (fun hc2 => ?_) | refine WBr_split (fun hc1 => ?_) (fun hc2 => ?_)
  · rw [if_pos (show (decide (x0 < (a0.l.length : Int))) = true by first | exact hc1 | simpa using hc1)] at h
    try simp only [go_sem]
    obtain ⟨y3, hy4, h⟩ := Option.bind_eq_some_iff.1 h
    try simp only [go_sem, rd_pos hy4, rd_ge hy4, rd_map eEffects hy4]
    first | refine WBr_splitN (fun hc5 => ?_) (fun hc6 => ?_) | refine WBr_split (fun hc5 => ?_) (fun hc6 => ?_)
    · rw [if_pos (show (!(y3.callback == a1)) = true by first | exact hc5 | simpa using hc5)] at h
      try simp only [go_sem, rd_pos hy4, rd_ge hy4, rd_map eEffects hy4]
      cases h
      exact ⟨rfl, Up.of (N := 2) (N' := 16) [] rfl rfl (by decide) (.set (.d _) (.set (.d _) (.set (.d _) (.set (.d _) RegsR.none)))) BlksR.at⟩
    · rw [if_neg (show ¬ (!(y3.callback == a1)) = true by first | (rw [hc6]; exact Bool.false_ne_true) | simpa using hc6 | (simp at hc6 ⊢; omega))] at h
      try simp only [go_sem, rd_pos hy4, rd_ge hy4, rd_map eEffects hy4]
      obtain ⟨r15, hl16, h⟩ := Option.bind_eq_some_iff.1 h
      refine Wp.loopR locs (n := 0) (a := c56B0) rfl (L56_1_S a0 a2 x0) (L56_1_F a0 a2 x0) (L56_1_ok a0 a2 x0) hl16 ?_ (by (repeat (first | refine Clo.block ?_ | refine Clo.seq locs rfl ?_)); (first | exact Clo.ret | exact Clo.lpost | exact Clo.cpost)) ?_
      · show Up 0 (L56_1_S a0 a2 x0 0) _
        delta L56_1_S
        exact Up.of (N := 14) (N' := 14) [] rfl rfl (by decide) (.set (.d _) (.set (.d _) (.set (.d _) (.set (.d _) RegsR.none)))) BlksR.at
      · rcases r15 with (q17 | q18)
        · dsimp only at h
          dsimp only [L56_1_F]
          try simp only [go_sem, rd_pos hy4, rd_ge hy4, rd_map eEffects hy4]
          cases h
          exact ⟨rfl, by simp, Up.of (N := 2) (N' := 15) [] rfl rfl (by decide) (.set (.d _) RegsR.none) BlksR.at⟩
        · dsimp only at h
          dsimp only [L56_1_F]
          try simp only [go_sem, rd_pos hy4, rd_ge hy4, rd_map eEffects hy4]
          cases h
          exact ⟨rfl, by simp, Up.of (N := 2) (N' := 14) [] rfl rfl (by decide) (.set (.d _) RegsR.none) BlksR.at⟩
  · rw [if_neg (show ¬ (decide (x0 < (a0.l.length : Int))) = true by first | (rw [hc2]; exact Bool.false_ne_true) | simpa using hc2 | (simp at hc2 ⊢; omega))] at h
    try simp only [go_sem]
    cases h
    exact ⟨rfl, by simp, Up.of (N := 2) (N' := 6) [] rfl rfl (by decide) RegsR.none BlksR.at⟩
noncomputable def P56 (a0 : Sl (Effects)) (a1 : Int) (a2 : Int) : Option (Bool) :=
  (loopV (L56_0_step a0 a1 a2) 0).bind fun r19 =>
  match r19 with
  | (.inl q21) =>
    some false
  | (.inr q22) =>
    some q22
theorem ok56 (a0 : Sl (Effects)) (a1 : Int) (a2 : Int) (r : Bool) (h : P56 a0 a1 a2 = some r) : pc prog 56 [.list a0.n (a0.l.map eEffects), .int .i64 a1, .int .i64 a2] = some (D.bool r) := by
  unfold P56 at h
  refine pc_of (fn := c56) rfl rfl ?_
  delta c56
  try simp only [go_sem]
  obtain ⟨r19, hl20, h⟩ := Option.bind_eq_some_iff.1 h
  refine Wp.loopR locs (n := 0) (a := c56B1) rfl (L56_0_S a0 a1 a2) (L56_0_F a0 a1 a2) (L56_0_ok a0 a1 a2) hl20 ?_ (by (repeat (first | refine Clo.block ?_ | refine Clo.seq locs rfl ?_)); (first | exact Clo.ret | exact Clo.lpost | exact Clo.cpost)) ?_
  · show Up 0 (L56_0_S a0 a1 a2 0) _
    delta L56_0_S
    exact Up.of (N := 2) (N' := 2) [] rfl rfl (by decide) (.set (.d _) (.set (.d _) (.set (.d _) (.set (.d _) RegsR.none)))) BlksR.at
  · rcases r19 with (q21 | q22)
    · dsimp only at h
      dsimp only [L56_0_F]
      try simp only [go_sem]
      cases h
      first | rfl | (simp only [go_sem]; done) | (simp only [go_sem]; rfl) | (simp [eListeners, eListener, eEvent, eRun, eCall, eStep, eEffects, elisten_place]; done)
    · dsimp only at h
      dsimp only [L56_0_F]
      try simp only [go_sem]
      cases h
      first | rfl | (simp only [go_sem]; done) | (simp only [go_sem]; rfl) | (simp [eListeners, eListener, eEvent, eRun, eCall, eStep, eEffects, elisten_place]; done)
def L14_0_S (a0 : Listeners) (a2 : Event) (a3 : Bool) (a4 : Sl (Effects)) (r5 : Sl (Call) × Listeners × Event × Bool × Int) (x0 : Bool × Int) : St := ⟨(((((((((Regs.none.set 3 (.d (.bool a3))).set 4 (.d (.list a4.n (a4.l.map eEffects)))).set 5 (.ptr 0 0 0)).set 7 (.ptr 1 0 0)).set 11 (.d (.list r5.1.n (r5.1.l.map eCall)))).set 13 (.ptr 18 0 0)).set 14 (.d (.bool r5.2.2.2.1))).set 16 (.d (.bool x0.1))).set 17 (.d (.int .i64 x0.2))), ((((Heap.at 30).set 0 (some (.els 2 [.d (eListeners a0)] 0))).set 1 (some (.els 13 [.d (eEvent a2)] 0))).set 18 (some (.els 13 [.d (eEvent r5.2.2.1)] 0)))⟩
def L14_0_F (a0 : Listeners) (a2 : Event) (a3 : Bool) (a4 : Sl (Effects)) (r5 : Sl (Call) × Listeners × Event × Bool × Int) : ((Bool) ⊕ (Unit)) → Ex × St := fun r => match r with
  | (.inl r) => (.exit 0, ⟨((((Regs.none.set 3 (.d (.bool a3))).set 13 (.ptr 18 0 0)).set 14 (.d (.bool r5.2.2.2.1))).set 16 (.d (.bool r))), ((Heap.at 30).set 18 (some (.els 13 [.d (eEvent r5.2.2.1)] 0)))⟩)
  | (.inr r) => (.ret, ⟨(Regs.none.set 10 (.d (.bool false))), (Heap.at 30)⟩)
noncomputable def L14_0_step (a0 : Listeners) (a2 : Event) (a3 : Bool) (a4 : Sl (Effects)) (r5 : Sl (Call) × Listeners × Event × Bool × Int) (x0 : Bool × Int) : Option ((Bool × Int) ⊕ ((Bool) ⊕ (Unit))) :=
  if (decide (x0.2 < (r5.1.l.length : Int))) = true then
    (rd r5.1.l x0.2).bind fun y11 =>
    (dec (eT2 eListener D.bool) (pc prog 54 [eListeners a0, .int .i64 y11.id])).bind fun r13 =>
    if (!r13.2) = true then
      some (.inr (.inr ()))
    else
      if (!x0.1) = true then
        if (bif a2.cancelable then (!(r13.1.passive == 1)) else false) = true then
          (dec D.bool (pc prog 55 [.list a4.n (a4.l.map eEffects), .int .i64 y11.callback, .int .u8 (3)])).bind fun r21 =>
          some (.inl (r21, (IntKind.wrap .i64 (x0.2 + 1))))
        else
          some (.inl (false, (IntKind.wrap .i64 (x0.2 + 1))))
      else
        some (.inl (true, (IntKind.wrap .i64 (x0.2 + 1))))
  else
    some (.inr (.inl x0.1))
theorem L14_0_ok (a0 : Listeners) (a2 : Event) (a3 : Bool) (a4 : Sl (Effects)) (r5 : Sl (Call) × Listeners × Event × Bool × Int) (x0 : Bool × Int) (o : (Bool × Int) ⊕ ((Bool) ⊕ (Unit))) (h : L14_0_step a0 a2 a3 a4 r5 x0 = some o) : Wp prog c14B0 (L14_0_S a0 a2 a3 a4 r5 x0) (LPost 0 (L14_0_S a0 a2 a3 a4 r5) (L14_0_F a0 a2 a3 a4 r5) o) := by
  unfold L14_0_step at h
  delta c14B0 L14_0_S
  try simp only [go_sem]
  first | refine WBr_splitN (fun hc9 => ?_) (fun hc10 => ?_) | refine WBr_split (fun hc9 => ?_) (fun hc10 => ?_)
  · rw [if_pos (show (decide (x0.2 < (r5.1.l.length : Int))) = true by first | exact hc9 | simpa using hc9)] at h
    try simp only [go_sem]
    obtain ⟨y11, hy12, h⟩ := Option.bind_eq_some_iff.1 h
    try simp only [go_sem, rd_pos hy12, rd_ge hy12, rd_map eCall hy12]
    obtain ⟨r13, hr14, h⟩ := Option.bind_eq_some_iff.1 h
    replace hr14 := dec_some hr14
    first | refine WVal_pc hr14 ?_ | (simp only [eT2_eq, eT3_eq, eT4_eq, eT5_eq] at hr14; refine WVal_pc hr14 ?_)
    try simp only [go_sem, rd_pos hy12, rd_ge hy12, rd_map eCall hy12]
    first | refine WBr_splitN (fun hc15 => ?_) (fun hc16 => ?_) | refine WBr_split (fun hc15 => ?_) (fun hc16 => ?_)
    · rw [if_pos (show (!r13.2) = true by first | exact hc15 | simpa using hc15)] at h
      try simp only [go_sem, rd_pos hy12, rd_ge hy12, rd_map eCall hy12]
      cases h
      exact ⟨rfl, by simp, Up.of (N := 30) (N' := 50) [] rfl rfl (by decide) (.set (.d _) RegsR.none) BlksR.at⟩
    · rw [if_neg (show ¬ (!r13.2) = true by first | (rw [hc16]; exact Bool.false_ne_true) | simpa using hc16 | (simp at hc16 ⊢; omega))] at h
      try simp only [go_sem, rd_pos hy12, rd_ge hy12, rd_map eCall hy12]
      refine WGuard_pure (v := .ptr 1 0 2) (fun hb37 => by skip; simp only [go_sem, rd_pos hy12, rd_ge hy12, rd_map eCall hy12, hc9, hc16, hb37]) ?_
      try simp only [go_sem, rd_pos hy12, rd_ge hy12, rd_map eCall hy12]
      refine WGuard_pure (v := .d (.bool a2.cancelable)) (fun hb36 => by skip; simp only [go_sem, rd_pos hy12, rd_ge hy12, rd_map eCall hy12, hc9, hc16, hb36]) ?_
      try simp only [go_sem, rd_pos hy12, rd_ge hy12, rd_map eCall hy12]
      refine WGuard_pure (v := .d (.bool a2.cancelable)) (fun hb35 => by skip; simp only [go_sem, rd_pos hy12, rd_ge hy12, rd_map eCall hy12, hc9, hc16, hb35]) ?_
      try simp only [go_sem, rd_pos hy12, rd_ge hy12, rd_map eCall hy12]
      refine WGuard_pure (v := .ptr 44 0 6) (fun hb32 => by ((obtain ⟨hb33, hb34⟩ := bif_true hb32)); simp only [go_sem, rd_pos hy12, rd_ge hy12, rd_map eCall hy12, hc9, hc16, hb34, hb33]) ?_
      try simp only [go_sem, rd_pos hy12, rd_ge hy12, rd_map eCall hy12]
      refine WGuard_pure (v := .d (.int .u8 r13.1.passive)) (fun hb29 => by ((obtain ⟨hb30, hb31⟩ := bif_true hb29)); simp only [go_sem, rd_pos hy12, rd_ge hy12, rd_map eCall hy12, hc9, hc16, hb31, hb30]) ?_
      try simp only [go_sem, rd_pos hy12, rd_ge hy12, rd_map eCall hy12]
      refine WGuard_pure (v := .d (.bool (!(r13.1.passive == 1)))) (fun hb26 => by ((obtain ⟨hb27, hb28⟩ := bif_true hb26)); simp only [go_sem, rd_pos hy12, rd_ge hy12, rd_map eCall hy12, hc9, hc16, hb28, hb27]) ?_
      try simp only [go_sem, rd_pos hy12, rd_ge hy12, rd_map eCall hy12]
      first | refine WGuard_splitN (fun hc17 => ?_) (fun hc18 => ?_) | refine WGuard_split (fun hc17 => ?_) (fun hc18 => ?_)
      · rw [if_pos (show (!x0.1) = true by first | exact hc17 | simpa using hc17)] at h
        try simp only [go_sem, rd_pos hy12, rd_ge hy12, rd_map eCall hy12, hc17]
        refine WGuard_pure (v := .d (.list a4.n (a4.l.map eEffects))) (fun hb25 => by skip; simp only [go_sem, rd_pos hy12, rd_ge hy12, rd_map eCall hy12, hc9, hc16, hc17, hb25]) ?_
        try simp only [go_sem, rd_pos hy12, rd_ge hy12, rd_map eCall hy12]
        refine WGuard_pure (v := .d (.list r5.1.n (r5.1.l.map eCall))) (fun hb24 => by skip; simp only [go_sem, rd_pos hy12, rd_ge hy12, rd_map eCall hy12, hc9, hc16, hc17, hb24]) ?_
        try simp only [go_sem, rd_pos hy12, rd_ge hy12, rd_map eCall hy12]
        refine WGuard_pure (v := .d (.int .i64 x0.2)) (fun hb23 => by skip; simp only [go_sem, rd_pos hy12, rd_ge hy12, rd_map eCall hy12, hc9, hc16, hc17, hb23]) ?_
        try simp only [go_sem, rd_pos hy12, rd_ge hy12, rd_map eCall hy12]
        first | refine WGuard_splitN (fun hc19 => ?_) (fun hc20 => ?_) | refine WGuard_split (fun hc19 => ?_) (fun hc20 => ?_)
        · rw [if_pos (show (bif a2.cancelable then (!(r13.1.passive == 1)) else false) = true by first | exact hc19 | simpa using hc19)] at h
          try simp only [go_sem, rd_pos hy12, rd_ge hy12, rd_map eCall hy12, hc19]
          obtain ⟨r21, hr22, h⟩ := Option.bind_eq_some_iff.1 h
          replace hr22 := dec_some hr22
          first | refine WVal_pc hr22 ?_ | (simp only [eT2_eq, eT3_eq, eT4_eq, eT5_eq] at hr22; refine WVal_pc hr22 ?_)
          try simp only [go_sem, rd_pos hy12, rd_ge hy12, rd_map eCall hy12]
          cases h
          exact ⟨rfl, Up.of (N := 30) (N' := 72) [] rfl rfl (by decide) (.set (.d _) (.set (.d _) (.set (.d _) (.set (.ptr' rfl) (.set (.d _) (.set (.ptr' rfl) (.set (.ptr' rfl) (.set (.d _) (.set (.d _) RegsR.none))))))))) (.set BlkR.refl_d (.set BlkR.refl_d (.set BlkR.refl_d BlksR.at)))⟩
        · rw [if_neg (show ¬ (bif a2.cancelable then (!(r13.1.passive == 1)) else false) = true by first | (rw [hc20]; exact Bool.false_ne_true) | simpa using hc20 | (simp at hc20 ⊢; omega))] at h
          try simp only [go_sem, rd_pos hy12, rd_ge hy12, rd_map eCall hy12, hc20]
          cases h
          exact ⟨rfl, Up.of (N := 30) (N' := 72) [] rfl rfl (by decide) (.set (.d _) (.set (.d _) (.set (.d _) (.set (.ptr' rfl) (.set (.d _) (.set (.ptr' rfl) (.set (.ptr' rfl) (.set (.d _) (.set (.d _) RegsR.none))))))))) (.set BlkR.refl_d (.set BlkR.refl_d (.set BlkR.refl_d BlksR.at)))⟩
      · rw [if_neg (show ¬ (!x0.1) = true by first | (rw [hc18]; exact Bool.false_ne_true) | simpa using hc18 | (simp at hc18 ⊢; omega))] at h
        try simp only [go_sem, rd_pos hy12, rd_ge hy12, rd_map eCall hy12, hc18]
        cases h
        exact ⟨rfl, Up.of (N := 30) (N' := 72) [] rfl rfl (by decide) (.set (.d _) (.set (.d _) (.set (.d _) (.set (.ptr' rfl) (.set (.d _) (.set (.ptr' rfl) (.set (.ptr' rfl) (.set (.d _) (.set (.d _) RegsR.none))))))))) (.set BlkR.refl_d (.set BlkR.refl_d (.set BlkR.refl_d BlksR.at)))⟩
  · rw [if_neg (show ¬ (decide (x0.2 < (r5.1.l.length : Int))) = true by first | (rw [hc10]; exact Bool.false_ne_true) | simpa using hc10 | (simp at hc10 ⊢; omega))] at h
    try simp only [go_sem]
    cases h
    exact ⟨rfl, by simp, Up.of (N := 30) (N' := 34) [] rfl rfl (by decide) (.set (.d _) (.set (.d _) (.set (.ptr' rfl) (.set (.d _) RegsR.none)))) (.set BlkR.refl_d BlksR.at)⟩
noncomputable def P14 (a0 : Listeners) (a1 : Sl (Step)) (a2 : Event) (a3 : Bool) (a4 : Sl (Effects)) : Option (Bool) :=
  (dec D.bool (pc prog 44 [])).bind fun r1 =>
  if (!r1) = true then
    some false
  else
    (dec (eT5 (eSl eCall) eListeners eEvent D.bool (D.int .i64)) (pc prog 50 [eListeners a0, .list a1.n (a1.l.map eStep), eEvent a2, .bool a3, .list a4.n (a4.l.map eEffects)])).bind fun r5 =>
    if (!(r5.2.2.2.2 == 0)) = true then
      some (!r5.2.2.2.1)
    else
      (loopV (L14_0_step a0 a2 a3 a4 r5) (a2.canceled, 0)).bind fun r38 =>
      match r38 with
      | (.inl q40) =>
        if (bif (r5.2.2.2.1 == (!q40)) then (r5.2.2.1.canceled == q40) else false) = true then
          if a3 = true then
            some (bif (r5.2.2.1.target == 0) then (r5.2.2.1.related == 0) else false)
          else
            some true
        else
          some false
      | (.inr q79) =>
        some false
theorem ok14 (a0 : Listeners) (a1 : Sl (Step)) (a2 : Event) (a3 : Bool) (a4 : Sl (Effects)) (r : Bool) (h : P14 a0 a1 a2 a3 a4 = some r) : pc prog 14 [eListeners a0, .list a1.n (a1.l.map eStep), eEvent a2, .bool a3, .list a4.n (a4.l.map eEffects)] = some (D.bool r) := by
  unfold P14 at h
  refine pc_of (fn := c14) rfl rfl ?_
  delta c14
  try simp only [go_sem]
  obtain ⟨r1, hr2, h⟩ := Option.bind_eq_some_iff.1 h
  replace hr2 := dec_some hr2
  first | refine WVal_pc hr2 ?_ | (simp only [eT2_eq, eT3_eq, eT4_eq, eT5_eq] at hr2; refine WVal_pc hr2 ?_)
  try simp only [go_sem]
  first | refine WBr_splitN (fun hc3 => ?_) (fun hc4 => ?_) | refine WBr_split (fun hc3 => ?_) (fun hc4 => ?_)
  · rw [if_pos (show (!r1) = true by first | exact hc3 | simpa using hc3)] at h
    try simp only [go_sem]
    cases h
    first | rfl | (simp only [go_sem]; done) | (simp only [go_sem]; rfl) | (simp [eListeners, eListener, eEvent, eRun, eCall, eStep, eEffects, elisten_place, hc3]; done)
  · rw [if_neg (show ¬ (!r1) = true by first | (rw [hc4]; exact Bool.false_ne_true) | simpa using hc4 | (simp at hc4 ⊢; omega))] at h
    try simp only [go_sem]
    obtain ⟨r5, hr6, h⟩ := Option.bind_eq_some_iff.1 h
    replace hr6 := dec_some hr6
    first | refine WVal_pc hr6 ?_ | (simp only [eT2_eq, eT3_eq, eT4_eq, eT5_eq] at hr6; refine WVal_pc hr6 ?_)
    try simp only [go_sem]
    first | refine WBr_splitN (fun hc7 => ?_) (fun hc8 => ?_) | refine WBr_split (fun hc7 => ?_) (fun hc8 => ?_)
    · rw [if_pos (show (!(r5.2.2.2.2 == 0)) = true by first | exact hc7 | simpa using hc7)] at h
      try simp only [go_sem]
      cases h
      first | rfl | (simp only [go_sem]; done) | (simp only [go_sem]; rfl) | (simp [eListeners, eListener, eEvent, eRun, eCall, eStep, eEffects, elisten_place, hc4, hc7]; done)
    · rw [if_neg (show ¬ (!(r5.2.2.2.2 == 0)) = true by first | (rw [hc8]; exact Bool.false_ne_true) | simpa using hc8 | (simp at hc8 ⊢; omega))] at h
      try simp only [go_sem]
      obtain ⟨r38, hl39, h⟩ := Option.bind_eq_some_iff.1 h
      refine Wp.loopR locs (n := 0) (a := c14B0) rfl (L14_0_S a0 a2 a3 a4 r5) (L14_0_F a0 a2 a3 a4 r5) (L14_0_ok a0 a2 a3 a4 r5) hl39 ?_ (by (repeat (first | refine Clo.block ?_ | refine Clo.seq locs rfl ?_)); (first | exact Clo.ret | exact Clo.lpost | exact Clo.cpost)) ?_
      · show Up 0 (L14_0_S a0 a2 a3 a4 r5 (a2.canceled, 0)) _
        delta L14_0_S
        exact Up.of (N := 30) (N' := 30) [] rfl rfl (by decide) (.set (.d _) (.set (.d _) (.set (.d _) (.set (.ptr' rfl) (.set (.d _) (.set (.ptr' rfl) (.set (.ptr' rfl) (.set (.d _) (.set (.d _) RegsR.none))))))))) (.set BlkR.refl_d (.set BlkR.refl_d (.set BlkR.refl_d BlksR.at)))
      · rcases r38 with (q40 | q79)
        · dsimp only at h
          dsimp only [L14_0_F]
          try simp only [go_sem]
          refine WGuard_pure (v := .ptr 18 0 4) (fun hb78 => by skip; simp only [go_sem, hc4, hc8, hb78]) ?_
          try simp only [go_sem]
          refine WGuard_pure (v := .d (.bool r5.2.2.1.canceled)) (fun hb77 => by skip; simp only [go_sem, hc4, hc8, hb77]) ?_
          try simp only [go_sem]
          refine WGuard_pure (v := .d (.bool q40)) (fun hb76 => by skip; simp only [go_sem, hc4, hc8, hb76]) ?_
          try simp only [go_sem]
          refine WGuard_pure (v := .d (.bool (r5.2.2.1.canceled == q40))) (fun hb75 => by skip; simp only [go_sem, hc4, hc8, hb75]) ?_
          try simp only [go_sem]
          refine WGuard_pure (v := .d (.bool a3)) (fun hb74 => by skip; simp only [go_sem, hc4, hc8, hb74]) ?_
          try simp only [go_sem]
          refine WGuard_pure (v := .d (.bool (!a3))) (fun hb73 => by skip; simp only [go_sem, hc4, hc8, hb73]) ?_
          try simp only [go_sem]
          refine WGuard_pure (v := .d (.bool (!a3))) (fun hb72 => by skip; simp only [go_sem, hc4, hc8, hb72]) ?_
          try simp only [go_sem]
          refine WGuard_pure (v := .ptr 18 0 10) (fun hb69 => by ((obtain ⟨hb70, hb71⟩ := bif_true hb69)); simp only [go_sem, hc4, hc8, hb71, hb70]) ?_
          try simp only [go_sem]
          refine WGuard_pure (v := .d (.int .i64 r5.2.2.1.target)) (fun hb66 => by ((obtain ⟨hb67, hb68⟩ := bif_true hb66)); simp only [go_sem, hc4, hc8, hb68, hb67]) ?_
          try simp only [go_sem]
          refine WGuard_pure (v := .d (.bool (r5.2.2.1.target == 0))) (fun hb63 => by ((obtain ⟨hb64, hb65⟩ := bif_true hb63)); simp only [go_sem, hc4, hc8, hb65, hb64]) ?_
          try simp only [go_sem]
          refine WGuard_pure (v := .d (.bool (r5.2.2.1.target == 0))) (fun hb60 => by ((obtain ⟨hb61, hb62⟩ := bif_true hb60)); simp only [go_sem, hc4, hc8, hb62, hb61]) ?_
          try simp only [go_sem]
          refine WGuard_pure (v := .ptr 18 0 11) (fun hb55 => by ((obtain ⟨hb56, hb57⟩ := bif_true hb55); (obtain ⟨hb58, hb59⟩ := bif_true hb56)); simp only [go_sem, hc4, hc8, hb57, hb59, hb58]) ?_
          try simp only [go_sem]
          refine WGuard_pure (v := .d (.int .i64 r5.2.2.1.related)) (fun hb50 => by ((obtain ⟨hb51, hb52⟩ := bif_true hb50); (obtain ⟨hb53, hb54⟩ := bif_true hb51)); simp only [go_sem, hc4, hc8, hb52, hb54, hb53]) ?_
          try simp only [go_sem]
          refine WGuard_pure (v := .d (.bool (r5.2.2.1.related == 0))) (fun hb45 => by ((obtain ⟨hb46, hb47⟩ := bif_true hb45); (obtain ⟨hb48, hb49⟩ := bif_true hb46)); simp only [go_sem, hc4, hc8, hb47, hb49, hb48]) ?_
          try simp only [go_sem]
          rcases Bool.eq_false_or_eq_true ((bif (r5.2.2.2.1 == (!q40)) then (r5.2.2.1.canceled == q40) else false)) with hc41 | hc42
          · rw [if_pos (show (bif (r5.2.2.2.1 == (!q40)) then (r5.2.2.1.canceled == q40) else false) = true by first | exact hc41 | simpa using hc41)] at h
            try simp only [go_sem, hc41]
            first | refine WGuard_splitN (fun hc43 => ?_) (fun hc44 => ?_) | refine WGuard_split (fun hc43 => ?_) (fun hc44 => ?_)
            · rw [if_pos (show a3 = true by first | exact hc43 | simpa using hc43)] at h
              try simp only [go_sem, hc43]
              try simp only [go_sem, hc4, hc8, hc41, hc43]
              cases h
              first | rfl | (simp only [go_sem]; done) | (simp only [go_sem]; rfl) | (simp [eListeners, eListener, eEvent, eRun, eCall, eStep, eEffects, elisten_place, hc4, hc8, hc41, hc43]; done)
            · rw [if_neg (show ¬ a3 = true by first | (rw [hc44]; exact Bool.false_ne_true) | simpa using hc44 | (simp at hc44 ⊢; omega))] at h
              try simp only [go_sem, hc44]
              try simp only [go_sem, hc4, hc8, hc41, hc44]
              cases h
              first | rfl | (simp only [go_sem]; done) | (simp only [go_sem]; rfl) | (simp [eListeners, eListener, eEvent, eRun, eCall, eStep, eEffects, elisten_place, hc4, hc8, hc41, hc44]; done)
          · rw [if_neg (show ¬ (bif (r5.2.2.2.1 == (!q40)) then (r5.2.2.1.canceled == q40) else false) = true by first | (rw [hc42]; exact Bool.false_ne_true) | simpa using hc42 | (simp at hc42 ⊢; omega))] at h
            try simp only [go_sem, hc42]
            try simp only [go_sem, hc4, hc8, hc42]
            try simp only [go_sem, hc4, hc8, hc42]
            cases h
            first | rfl | (simp only [go_sem]; done) | (simp only [go_sem]; rfl) | (simp [eListeners, eListener, eEvent, eRun, eCall, eStep, eEffects, elisten_place, hc4, hc8, hc42]; done)
        · dsimp only at h
          dsimp only [L14_0_F]
          try simp only [go_sem]
          cases h
          first | rfl | (simp only [go_sem]; done) | (simp only [go_sem]; rfl) | (simp [eListeners, eListener, eEvent, eRun, eCall, eStep, eEffects, elisten_place, hc4, hc8]; done)
def L15_1_S (a0 : Listeners) (a4 : Sl (Effects)) (r5 : Sl (Call) × Listeners × Event × Bool × Int) (x0 : Int) (r13 : Listener × Bool) (x1 : Int) : St := ⟨(((((((Regs.none.set 4 (.d (.list a4.n (a4.l.map eEffects)))).set 5 (.ptr 0 0 0)).set 11 (.d (.list r5.1.n (r5.1.l.map eCall)))).set 12 (.ptr 17 0 0)).set 16 (.d (.int .i64 x0))).set 17 (.ptr 41 0 0)).set 21 (.d (.int .i64 x1))), ((((Heap.at 67).set 0 (some (.els 2 [.d (eListeners a0)] 0))).set 17 (some (.els 2 [.d (eListeners r5.2.1)] 0))).set 41 (some (.els 8 [.d (eListener r13.1)] 0)))⟩
def L15_1_F (a0 : Listeners) (a4 : Sl (Effects)) (r5 : Sl (Call) × Listeners × Event × Bool × Int) (x0 : Int) (r13 : Listener × Bool) : ((Unit) ⊕ (Unit)) → Ex × St := fun r => match r with
  | (.inl r) => (.exit 2, ⟨(((((Regs.none.set 4 (.d (.list a4.n (a4.l.map eEffects)))).set 5 (.ptr 0 0 0)).set 11 (.d (.list r5.1.n (r5.1.l.map eCall)))).set 12 (.ptr 17 0 0)).set 16 (.d (.int .i64 x0))), (((Heap.at 67).set 0 (some (.els 2 [.d (eListeners a0)] 0))).set 17 (some (.els 2 [.d (eListeners r5.2.1)] 0)))⟩)
  | (.inr r) => (.ret, ⟨(Regs.none.set 10 (.d (.bool false))), (Heap.at 67)⟩)
noncomputable def L15_1_step (a0 : Listeners) (a4 : Sl (Effects)) (r5 : Sl (Call) × Listeners × Event × Bool × Int) (x0 : Int) (r13 : Listener × Bool) (x1 : Int) : Option ((Int) ⊕ ((Unit) ⊕ (Unit))) :=
  if (decide (x1 < x0)) = true then
    if r13.1.once = true then
      (rd r5.1.l x1).bind fun y25 =>
      (rd r5.1.l x0).bind fun y27 =>
      if (!(y25.id == y27.id)) = true then
        (dec D.bool (pc prog 56 [.list a4.n (a4.l.map eEffects), .int .i64 y25.callback, .int .i64 y27.id])).bind fun r31 =>
        if r31 = true then
          some (.inr (.inr ()))
        else
          some (.inl (IntKind.wrap .i64 (x1 + 1)))
      else
        some (.inr (.inr ()))
    else
      (rd r5.1.l x1).bind fun y38 =>
      (rd r5.1.l x0).bind fun y40 =>
      (dec D.bool (pc prog 56 [.list a4.n (a4.l.map eEffects), .int .i64 y38.callback, .int .i64 y40.id])).bind fun r42 =>
      if r42 = true then
        some (.inr (.inr ()))
      else
        some (.inl (IntKind.wrap .i64 (x1 + 1)))
  else
    some (.inr (.inl ()))
theorem L15_1_ok (a0 : Listeners) (a4 : Sl (Effects)) (r5 : Sl (Call) × Listeners × Event × Bool × Int) (x0 : Int) (r13 : Listener × Bool) (x1 : Int) (o : (Int) ⊕ ((Unit) ⊕ (Unit))) (h : L15_1_step a0 a4 r5 x0 r13 x1 = some o) : Wp prog c15B0 (L15_1_S a0 a4 r5 x0 r13 x1) (LPost 0 (L15_1_S a0 a4 r5 x0 r13) (L15_1_F a0 a4 r5 x0 r13) o) := by
  unfold L15_1_step at h
  delta c15B0 L15_1_S
  try simp only [go_sem]
  first | refine WBr_splitN (fun hc21 => ?_) (fun hc22 => ?_) | refine WBr_split (fun hc21 => ?_) (fun hc22 => ?_)
  · rw [if_pos (show (decide (x1 < x0)) = true by first | exact hc21 | simpa using hc21)] at h
    try simp only [go_sem]
    refine WGuard_pure (v := .d (.list r5.1.n (r5.1.l.map eCall))) (fun hb47 => by skip; simp only [go_sem, hc21, hb47]) ?_
    try simp only [go_sem]
    refine WGuard_pure (v := .d (.int .i64 x1)) (fun hb46 => by skip; simp only [go_sem, hc21, hb46]) ?_
    try simp only [go_sem]
    first | refine WGuard_splitN (fun hc23 => ?_) (fun hc24 => ?_) | refine WGuard_split (fun hc23 => ?_) (fun hc24 => ?_)
    · rw [if_pos (show r13.1.once = true by first | exact hc23 | simpa using hc23)] at h
      try simp only [go_sem, hc23]
      obtain ⟨y25, hy26, h⟩ := Option.bind_eq_some_iff.1 h
      try simp only [go_sem, rd_pos hy26, rd_ge hy26, rd_map eCall hy26]
      obtain ⟨y27, hy28, h⟩ := Option.bind_eq_some_iff.1 h
      try simp only [go_sem, rd_pos hy26, rd_ge hy26, rd_map eCall hy26, rd_pos hy28, rd_ge hy28, rd_map eCall hy28]
      refine WGuard_pure (v := .d (.list a4.n (a4.l.map eEffects))) (fun hb37 => by skip; simp only [go_sem, rd_pos hy26, rd_ge hy26, rd_map eCall hy26, rd_pos hy28, rd_ge hy28, rd_map eCall hy28, hc21, hc23, hb37]) ?_
      try simp only [go_sem, rd_pos hy26, rd_ge hy26, rd_map eCall hy26, rd_pos hy28, rd_ge hy28, rd_map eCall hy28]
      refine WGuard_pure (v := .d (.list r5.1.n (r5.1.l.map eCall))) (fun hb36 => by skip; simp only [go_sem, rd_pos hy26, rd_ge hy26, rd_map eCall hy26, rd_pos hy28, rd_ge hy28, rd_map eCall hy28, hc21, hc23, hb36]) ?_
      try simp only [go_sem, rd_pos hy26, rd_ge hy26, rd_map eCall hy26, rd_pos hy28, rd_ge hy28, rd_map eCall hy28]
      refine WGuard_pure (v := .d (.int .i64 x1)) (fun hb35 => by skip; simp only [go_sem, rd_pos hy26, rd_ge hy26, rd_map eCall hy26, rd_pos hy28, rd_ge hy28, rd_map eCall hy28, hc21, hc23, hb35]) ?_
      try simp only [go_sem, rd_pos hy26, rd_ge hy26, rd_map eCall hy26, rd_pos hy28, rd_ge hy28, rd_map eCall hy28]
      first | refine WGuard_splitN (fun hc29 => ?_) (fun hc30 => ?_) | refine WGuard_split (fun hc29 => ?_) (fun hc30 => ?_)
      · rw [if_pos (show (!(y25.id == y27.id)) = true by first | exact hc29 | simpa using hc29)] at h
        try simp only [go_sem, rd_pos hy26, rd_ge hy26, rd_map eCall hy26, rd_pos hy28, rd_ge hy28, rd_map eCall hy28, hc29]
        obtain ⟨r31, hr32, h⟩ := Option.bind_eq_some_iff.1 h
        replace hr32 := dec_some hr32
        first | refine WVal_pc hr32 ?_ | (simp only [eT2_eq, eT3_eq, eT4_eq, eT5_eq] at hr32; refine WVal_pc hr32 ?_)
        try simp only [go_sem, rd_pos hy26, rd_ge hy26, rd_map eCall hy26, rd_pos hy28, rd_ge hy28, rd_map eCall hy28]
        first | refine WBr_splitN (fun hc33 => ?_) (fun hc34 => ?_) | refine WBr_split (fun hc33 => ?_) (fun hc34 => ?_)
        · rw [if_pos (show r31 = true by first | exact hc33 | simpa using hc33)] at h
          try simp only [go_sem, rd_pos hy26, rd_ge hy26, rd_map eCall hy26, rd_pos hy28, rd_ge hy28, rd_map eCall hy28]
          cases h
          exact ⟨rfl, by simp, Up.of (N := 67) (N' := 100) [] rfl rfl (by decide) (.set (.d _) RegsR.none) BlksR.at⟩
        · rw [if_neg (show ¬ r31 = true by first | (rw [hc34]; exact Bool.false_ne_true) | simpa using hc34 | (simp at hc34 ⊢; omega))] at h
          try simp only [go_sem, rd_pos hy26, rd_ge hy26, rd_map eCall hy26, rd_pos hy28, rd_ge hy28, rd_map eCall hy28]
          cases h
          exact ⟨rfl, Up.of (N := 67) (N' := 102) [] rfl rfl (by decide) (.set (.d _) (.set (.ptr' rfl) (.set (.d _) (.set (.ptr' rfl) (.set (.d _) (.set (.ptr' rfl) (.set (.d _) RegsR.none))))))) (.set BlkR.refl_d (.set BlkR.refl_d (.set BlkR.refl_d BlksR.at)))⟩
      · rw [if_neg (show ¬ (!(y25.id == y27.id)) = true by first | (rw [hc30]; exact Bool.false_ne_true) | simpa using hc30 | (simp at hc30 ⊢; omega))] at h
        try simp only [go_sem, rd_pos hy26, rd_ge hy26, rd_map eCall hy26, rd_pos hy28, rd_ge hy28, rd_map eCall hy28, hc30]
        cases h
        exact ⟨rfl, by simp, Up.of (N := 67) (N' := 100) [] rfl rfl (by decide) (.set (.d _) RegsR.none) BlksR.at⟩
    · rw [if_neg (show ¬ r13.1.once = true by first | (rw [hc24]; exact Bool.false_ne_true) | simpa using hc24 | (simp at hc24 ⊢; omega))] at h
      try simp only [go_sem, hc24]
      obtain ⟨y38, hy39, h⟩ := Option.bind_eq_some_iff.1 h
      try simp only [go_sem, rd_pos hy39, rd_ge hy39, rd_map eCall hy39]
      obtain ⟨y40, hy41, h⟩ := Option.bind_eq_some_iff.1 h
      try simp only [go_sem, rd_pos hy39, rd_ge hy39, rd_map eCall hy39, rd_pos hy41, rd_ge hy41, rd_map eCall hy41]
      obtain ⟨r42, hr43, h⟩ := Option.bind_eq_some_iff.1 h
      replace hr43 := dec_some hr43
      first | refine WVal_pc hr43 ?_ | (simp only [eT2_eq, eT3_eq, eT4_eq, eT5_eq] at hr43; refine WVal_pc hr43 ?_)
      try simp only [go_sem, rd_pos hy39, rd_ge hy39, rd_map eCall hy39, rd_pos hy41, rd_ge hy41, rd_map eCall hy41]
      first | refine WBr_splitN (fun hc44 => ?_) (fun hc45 => ?_) | refine WBr_split (fun hc44 => ?_) (fun hc45 => ?_)
      · rw [if_pos (show r42 = true by first | exact hc44 | simpa using hc44)] at h
        try simp only [go_sem, rd_pos hy39, rd_ge hy39, rd_map eCall hy39, rd_pos hy41, rd_ge hy41, rd_map eCall hy41]
        cases h
        exact ⟨rfl, by simp, Up.of (N := 67) (N' := 100) [] rfl rfl (by decide) (.set (.d _) RegsR.none) BlksR.at⟩
      · rw [if_neg (show ¬ r42 = true by first | (rw [hc45]; exact Bool.false_ne_true) | simpa using hc45 | (simp at hc45 ⊢; omega))] at h
        try simp only [go_sem, rd_pos hy39, rd_ge hy39, rd_map eCall hy39, rd_pos hy41, rd_ge hy41, rd_map eCall hy41]
        cases h
        exact ⟨rfl, Up.of (N := 67) (N' := 102) [] rfl rfl (by decide) (.set (.d _) (.set (.ptr' rfl) (.set (.d _) (.set (.ptr' rfl) (.set (.d _) (.set (.ptr' rfl) (.set (.d _) RegsR.none))))))) (.set BlkR.refl_d (.set BlkR.refl_d (.set BlkR.refl_d BlksR.at)))⟩
  · rw [if_neg (show ¬ (decide (x1 < x0)) = true by first | (rw [hc22]; exact Bool.false_ne_true) | simpa using hc22 | (simp at hc22 ⊢; omega))] at h
    try simp only [go_sem]
    cases h
    exact ⟨rfl, by simp, Up.of (N := 67) (N' := 70) [] rfl rfl (by decide) (.set (.d _) (.set (.ptr' rfl) (.set (.d _) (.set (.ptr' rfl) (.set (.d _) RegsR.none))))) (.set BlkR.refl_d (.set BlkR.refl_d BlksR.at))⟩
def L15_0_S (a0 : Listeners) (a4 : Sl (Effects)) (r5 : Sl (Call) × Listeners × Event × Bool × Int) (x0 : Int) : St := ⟨(((((Regs.none.set 4 (.d (.list a4.n (a4.l.map eEffects)))).set 5 (.ptr 0 0 0)).set 11 (.d (.list r5.1.n (r5.1.l.map eCall)))).set 12 (.ptr 17 0 0)).set 16 (.d (.int .i64 x0))), (((Heap.at 27).set 0 (some (.els 2 [.d (eListeners a0)] 0))).set 17 (some (.els 2 [.d (eListeners r5.2.1)] 0)))⟩
def L15_0_F (a0 : Listeners) (a4 : Sl (Effects)) (r5 : Sl (Call) × Listeners × Event × Bool × Int) : ((Unit) ⊕ (Unit)) → Ex × St := fun r => match r with
  | (.inl r) => (.exit 0, ⟨((Regs.none.set 5 (.ptr 0 0 0)).set 12 (.ptr 17 0 0)), (((Heap.at 27).set 0 (some (.els 2 [.d (eListeners a0)] 0))).set 17 (some (.els 2 [.d (eListeners r5.2.1)] 0)))⟩)
  | (.inr r) => (.ret, ⟨(Regs.none.set 10 (.d (.bool false))), (Heap.at 27)⟩)
noncomputable def L15_0_step (a0 : Listeners) (a4 : Sl (Effects)) (r5 : Sl (Call) × Listeners × Event × Bool × Int) (x0 : Int) : Option ((Int) ⊕ ((Unit) ⊕ (Unit))) :=
  if (decide (x0 < (r5.1.l.length : Int))) = true then
    (rd r5.1.l x0).bind fun y11 =>
    (dec (eT2 eListener D.bool) (pc prog 54 [eListeners a0, .int .i64 y11.id])).bind fun r13 =>
    (dec (eT2 eListener D.bool) (pc prog 54 [eListeners r5.2.1, .int .i64 y11.id])).bind fun r15 =>
    if r13.2 = true then
      if (bif r13.1.once then r15.2 else false) = true then
        some (.inr (.inr ()))
      else
        (loopV (L15_1_step a0 a4 r5 x0 r13) 0).bind fun r48 =>
        match r48 with
        | (.inl q50) =>
          some (.inl (IntKind.wrap .i64 (x0 + 1)))
        | (.inr q51) =>
          some (.inr (.inr ()))
    else
      some (.inr (.inr ()))
  else
    some (.inr (.inl ()))
theorem L15_0_ok (a0 : Listeners) (a4 : Sl (Effects)) (r5 : Sl (Call) × Listeners × Event × Bool × Int) (x0 : Int) (o : (Int) ⊕ ((Unit) ⊕ (Unit))) (h : L15_0_step a0 a4 r5 x0 = some o) : Wp prog c15B1 (L15_0_S a0 a4 r5 x0) (LPost 0 (L15_0_S a0 a4 r5) (L15_0_F a0 a4 r5) o) := by
  unfold L15_0_step at h
  delta c15B1 L15_0_S
  try simp only [go_sem]
  first | refine WBr_splitN (fun hc9 => ?_) (fun hc10 => ?_) | refine WBr_split (fun hc9 => ?_) (fun hc10 => ?_)
  · rw [if_pos (show (decide (x0 < (r5.1.l.length : Int))) = true by first | exact hc9 | simpa using hc9)] at h
    try simp only [go_sem]
    obtain ⟨y11, hy12, h⟩ := Option.bind_eq_some_iff.1 h
    try simp only [go_sem, rd_pos hy12, rd_ge hy12, rd_map eCall hy12]
    obtain ⟨r13, hr14, h⟩ := Option.bind_eq_some_iff.1 h
    replace hr14 := dec_some hr14
    first | refine WVal_pc hr14 ?_ | (simp only [eT2_eq, eT3_eq, eT4_eq, eT5_eq] at hr14; refine WVal_pc hr14 ?_)
    try simp only [go_sem, rd_pos hy12, rd_ge hy12, rd_map eCall hy12]
    obtain ⟨r15, hr16, h⟩ := Option.bind_eq_some_iff.1 h
    replace hr16 := dec_some hr16
    first | refine WVal_pc hr16 ?_ | (simp only [eT2_eq, eT3_eq, eT4_eq, eT5_eq] at hr16; refine WVal_pc hr16 ?_)
    try simp only [go_sem, rd_pos hy12, rd_ge hy12, rd_map eCall hy12]
    refine WGuard_pure (v := .ptr 41 0 5) (fun hb57 => by skip; simp only [go_sem, rd_pos hy12, rd_ge hy12, rd_map eCall hy12, hc9, hb57]) ?_
    try simp only [go_sem, rd_pos hy12, rd_ge hy12, rd_map eCall hy12]
    refine WGuard_pure (v := .d (.bool r13.1.once)) (fun hb56 => by skip; simp only [go_sem, rd_pos hy12, rd_ge hy12, rd_map eCall hy12, hc9, hb56]) ?_
    try simp only [go_sem, rd_pos hy12, rd_ge hy12, rd_map eCall hy12]
    refine WGuard_pure (v := .d (.bool r13.1.once)) (fun hb55 => by skip; simp only [go_sem, rd_pos hy12, rd_ge hy12, rd_map eCall hy12, hc9, hb55]) ?_
    try simp only [go_sem, rd_pos hy12, rd_ge hy12, rd_map eCall hy12]
    refine WGuard_pure (v := .d (.bool r15.2)) (fun hb52 => by ((obtain ⟨hb53, hb54⟩ := bif_true hb52)); simp only [go_sem, rd_pos hy12, rd_ge hy12, rd_map eCall hy12, hc9, hb54, hb53]) ?_
    try simp only [go_sem, rd_pos hy12, rd_ge hy12, rd_map eCall hy12]
    first | refine WGuard_splitN (fun hc17 => ?_) (fun hc18 => ?_) | refine WGuard_split (fun hc17 => ?_) (fun hc18 => ?_)
    · rw [if_pos (show r13.2 = true by first | exact hc17 | simpa using hc17)] at h
      try simp only [go_sem, rd_pos hy12, rd_ge hy12, rd_map eCall hy12, hc17]
      first | refine WBr_splitN (fun hc19 => ?_) (fun hc20 => ?_) | refine WBr_split (fun hc19 => ?_) (fun hc20 => ?_)
      · rw [if_pos (show (bif r13.1.once then r15.2 else false) = true by first | exact hc19 | simpa using hc19)] at h
        try simp only [go_sem, rd_pos hy12, rd_ge hy12, rd_map eCall hy12]
        cases h
        exact ⟨rfl, by simp, Up.of (N := 27) (N' := 67) [] rfl rfl (by decide) (.set (.d _) RegsR.none) BlksR.at⟩
      · rw [if_neg (show ¬ (bif r13.1.once then r15.2 else false) = true by first | (rw [hc20]; exact Bool.false_ne_true) | simpa using hc20 | (simp at hc20 ⊢; omega))] at h
        try simp only [go_sem, rd_pos hy12, rd_ge hy12, rd_map eCall hy12]
        obtain ⟨r48, hl49, h⟩ := Option.bind_eq_some_iff.1 h
        refine Wp.loopR locs (n := 0) (a := c15B0) rfl (L15_1_S a0 a4 r5 x0 r13) (L15_1_F a0 a4 r5 x0 r13) (L15_1_ok a0 a4 r5 x0 r13) hl49 ?_ (by (repeat (first | refine Clo.block ?_ | refine Clo.seq locs rfl ?_)); (first | exact Clo.ret | exact Clo.lpost | exact Clo.cpost)) ?_
        · show Up 0 (L15_1_S a0 a4 r5 x0 r13 0) _
          delta L15_1_S
          exact Up.of (N := 67) (N' := 67) [] rfl rfl (by decide) (.set (.d _) (.set (.ptr' rfl) (.set (.d _) (.set (.ptr' rfl) (.set (.d _) (.set (.ptr' rfl) (.set (.d _) RegsR.none))))))) (.set BlkR.refl_d (.set BlkR.refl_d (.set BlkR.refl_d BlksR.at)))
        · rcases r48 with (q50 | q51)
          · dsimp only at h
            dsimp only [L15_1_F]
            try simp only [go_sem, rd_pos hy12, rd_ge hy12, rd_map eCall hy12]
            cases h
            exact ⟨rfl, Up.of (N := 27) (N' := 70) [] rfl rfl (by decide) (.set (.d _) (.set (.ptr' rfl) (.set (.d _) (.set (.ptr' rfl) (.set (.d _) RegsR.none))))) (.set BlkR.refl_d (.set BlkR.refl_d BlksR.at))⟩
          · dsimp only at h
            dsimp only [L15_1_F]
            try simp only [go_sem, rd_pos hy12, rd_ge hy12, rd_map eCall hy12]
            cases h
            exact ⟨rfl, by simp, Up.of (N := 27) (N' := 67) [] rfl rfl (by decide) (.set (.d _) RegsR.none) BlksR.at⟩
    · rw [if_neg (show ¬ r13.2 = true by first | (rw [hc18]; exact Bool.false_ne_true) | simpa using hc18 | (simp at hc18 ⊢; omega))] at h
      try simp only [go_sem, rd_pos hy12, rd_ge hy12, rd_map eCall hy12, hc18]
      cases h
      exact ⟨rfl, by simp, Up.of (N := 27) (N' := 67) [] rfl rfl (by decide) (.set (.d _) RegsR.none) BlksR.at⟩
  · rw [if_neg (show ¬ (decide (x0 < (r5.1.l.length : Int))) = true by first | (rw [hc10]; exact Bool.false_ne_true) | simpa using hc10 | (simp at hc10 ⊢; omega))] at h
    try simp only [go_sem]
    cases h
    exact ⟨rfl, by simp, Up.of (N := 27) (N' := 31) [] rfl rfl (by decide) (.set (.ptr' rfl) (.set (.ptr' rfl) RegsR.none)) (.set BlkR.refl_d (.set BlkR.refl_d BlksR.at))⟩
noncomputable def P15 (a0 : Listeners) (a1 : Sl (Step)) (a2 : Event) (a3 : Bool) (a4 : Sl (Effects)) : Option (Bool) :=
  (dec D.bool (pc prog 44 [])).bind fun r1 =>
  if (!r1) = true then
    some false
  else
    (dec (eT5 (eSl eCall) eListeners eEvent D.bool (D.int .i64)) (pc prog 50 [eListeners a0, .list a1.n (a1.l.map eStep), eEvent a2, .bool a3, .list a4.n (a4.l.map eEffects)])).bind fun r5 =>
    if (!(r5.2.2.2.2 == 0)) = true then
      some ((r5.2.1.list.l.length : Int) == 0)
    else
      (loopV (L15_0_step a0 a4 r5) 0).bind fun r58 =>
      match r58 with
      | (.inl q60) =>
        some (decide ((r5.2.1.list.l.length : Int) ≤ (a0.list.l.length : Int)))
      | (.inr q61) =>
        some false
theorem ok15 (a0 : Listeners) (a1 : Sl (Step)) (a2 : Event) (a3 : Bool) (a4 : Sl (Effects)) (r : Bool) (h : P15 a0 a1 a2 a3 a4 = some r) : pc prog 15 [eListeners a0, .list a1.n (a1.l.map eStep), eEvent a2, .bool a3, .list a4.n (a4.l.map eEffects)] = some (D.bool r) := by
  unfold P15 at h
  refine pc_of (fn := c15) rfl rfl ?_
  delta c15
  try simp only [go_sem]
  obtain ⟨r1, hr2, h⟩ := Option.bind_eq_some_iff.1 h
  replace hr2 := dec_some hr2
  first | refine WVal_pc hr2 ?_ | (simp only [eT2_eq, eT3_eq, eT4_eq, eT5_eq] at hr2; refine WVal_pc hr2 ?_)
  try simp only [go_sem]
  first | refine WBr_splitN (fun hc3 => ?_) (fun hc4 => ?_) | refine WBr_split (fun hc3 => ?_) (fun hc4 => ?_)
  · rw [if_pos (show (!r1) = true by first | exact hc3 | simpa using hc3)] at h
    try simp only [go_sem]
    cases h
    first | rfl | (simp only [go_sem]; done) | (simp only [go_sem]; rfl) | (simp [eListeners, eListener, eEvent, eRun, eCall, eStep, eEffects, elisten_place, hc3]; done)
  · rw [if_neg (show ¬ (!r1) = true by first | (rw [hc4]; exact Bool.false_ne_true) | simpa using hc4 | (simp at hc4 ⊢; omega))] at h
    try simp only [go_sem]
    obtain ⟨r5, hr6, h⟩ := Option.bind_eq_some_iff.1 h
    replace hr6 := dec_some hr6
    first | refine WVal_pc hr6 ?_ | (simp only [eT2_eq, eT3_eq, eT4_eq, eT5_eq] at hr6; refine WVal_pc hr6 ?_)
    try simp only [go_sem]
    first | refine WBr_splitN (fun hc7 => ?_) (fun hc8 => ?_) | refine WBr_split (fun hc7 => ?_) (fun hc8 => ?_)
    · rw [if_pos (show (!(r5.2.2.2.2 == 0)) = true by first | exact hc7 | simpa using hc7)] at h
      try simp only [go_sem]
      cases h
      first | rfl | (simp only [go_sem]; done) | (simp only [go_sem]; rfl) | (simp [eListeners, eListener, eEvent, eRun, eCall, eStep, eEffects, elisten_place, hc4, hc7]; done)
    · rw [if_neg (show ¬ (!(r5.2.2.2.2 == 0)) = true by first | (rw [hc8]; exact Bool.false_ne_true) | simpa using hc8 | (simp at hc8 ⊢; omega))] at h
      try simp only [go_sem]
      obtain ⟨r58, hl59, h⟩ := Option.bind_eq_some_iff.1 h
      refine Wp.loopR locs (n := 0) (a := c15B1) rfl (L15_0_S a0 a4 r5) (L15_0_F a0 a4 r5) (L15_0_ok a0 a4 r5) hl59 ?_ (by (repeat (first | refine Clo.block ?_ | refine Clo.seq locs rfl ?_)); (first | exact Clo.ret | exact Clo.lpost | exact Clo.cpost)) ?_
      · show Up 0 (L15_0_S a0 a4 r5 0) _
        delta L15_0_S
        exact Up.of (N := 27) (N' := 27) [] rfl rfl (by decide) (.set (.d _) (.set (.ptr' rfl) (.set (.d _) (.set (.ptr' rfl) (.set (.d _) RegsR.none))))) (.set BlkR.refl_d (.set BlkR.refl_d BlksR.at))
      · rcases r58 with (q60 | q61)
        · dsimp only at h
          dsimp only [L15_0_F]
          try simp only [go_sem]
          cases h
          first | rfl | (simp only [go_sem]; done) | (simp only [go_sem]; rfl) | (simp [eListeners, eListener, eEvent, eRun, eCall, eStep, eEffects, elisten_place, hc4, hc8]; done)
        · dsimp only at h
          dsimp only [L15_0_F]
          try simp only [go_sem]
          cases h
          first | rfl | (simp only [go_sem]; done) | (simp only [go_sem]; rfl) | (simp [eListeners, eListener, eEvent, eRun, eCall, eStep, eEffects, elisten_place, hc4, hc8]; done)
end Go.Proofs.Ytnijbejobbajfaa.D
