/- Shaken copy of a longer text: what one law needs. Its conditions: none. -/
import Derived.Test.YtfleilibjdgcjaaZODec0
set_option linter.unusedSimpArgs false
set_option linter.unusedVariables false
set_option maxHeartbeats 1000000
namespace Go.Proofs.Ytfleilibjdgcjaa.O
open Go.AI
noncomputable def P20 (a0 : Forest) (a1 : Int) (a2 : Int) : Option (Int × Int) :=
  (dec (eT3 (D.int .i64) D.bool (D.int .i64)) (pc prog 54 [eForest a0, .int .i64 a1, .int .i64 a2])).bind fun r1 =>
  if (!(r1.2.2 == 0)) = true then
    some (0, r1.2.2)
  else
    if (a1 == a2) = true then
      some (0, 0)
    else
      if (bif (!r1.2.1) then (decide (a2 < a1)) else false) = true then
        some (35, 0)
      else
        if (!r1.2.1) = true then
          some (37, 0)
        else
          (dec D.bool (pc prog 86 [eForest a0, .int .i64 a2, .int .i64 a1])).bind fun r11 =>
          if r11 = true then
            some (10, 0)
          else
            (dec D.bool (pc prog 86 [eForest a0, .int .i64 a1, .int .i64 a2])).bind fun r15 =>
            if r15 = true then
              some (20, 0)
            else
              if (decide (0 < r1.1)) = true then
                some (2, 0)
              else
                some (4, 0)
theorem ok20 (a0 : Forest) (a1 : Int) (a2 : Int) (r : Int × Int) (h : P20 a0 a1 a2 = some r) : pc prog 20 [eForest a0, .int .i64 a1, .int .i64 a2] = some ((eT2 (D.int .i64) (D.int .i64)) r) := by
  unfold P20 at h
  refine pc_of (fn := c20) rfl rfl ?_
  delta c20
  try simp only [go_sem]
  obtain ⟨r1, hr2, h⟩ := bs h
  replace hr2 := dec_some hr2
  refine WVal_pc hr2 ?_
  try simp only [go_sem]
  refine WBr_splitN (fun hc3 => ?_) (fun hc4 => ?_)
  · rw [if_pos (show (!(r1.2.2 == 0)) = true by (rw [hc3]; rfl))] at h
    try simp only [go_sem]
    cases h
    rfl
  · rw [if_neg (ffn hc4)] at h
    try simp only [go_sem]
    refine WBr_split (fun hc5 => ?_) (fun hc6 => ?_)
    · rw [if_pos hc5] at h
      try simp only [go_sem]
      cases h
      rfl
    · rw [if_neg (ff hc6)] at h
      try simp only [go_sem]
      refine WGuard_pure (v := .d (.int .i64 a2)) (fun hb23 => by (simp only [go_sem, hc4, hc6, hb23]; done)) ?_
      try simp only [go_sem]
      refine WGuard_pure (v := .d (.int .i64 a1)) (fun hb22 => by (simp only [go_sem, hc4, hc6, hb22]; done)) ?_
      try simp only [go_sem]
      refine WGuard_pure (v := .d (.bool (decide (a2 < a1)))) (fun hb21 => by (simp only [go_sem, hc4, hc6, hb21]; done)) ?_
      try simp only [go_sem]
      refine WBr_split (fun hc7 => ?_) (fun hc8 => ?_)
      · rw [if_pos hc7] at h
        try simp only [go_sem]
        cases h
        rfl
      · rw [if_neg (ff hc8)] at h
        try simp only [go_sem]
        refine WBr_splitN (fun hc9 => ?_) (fun hc10 => ?_)
        · rw [if_pos (show (!r1.2.1) = true by (rw [hc9]; rfl))] at h
          try simp only [go_sem]
          cases h
          rfl
        · rw [if_neg (ffn hc10)] at h
          try simp only [go_sem]
          obtain ⟨r11, hr12, h⟩ := bs h
          replace hr12 := dec_some hr12
          refine WVal_pc hr12 ?_
          try simp only [go_sem]
          refine WBr_split (fun hc13 => ?_) (fun hc14 => ?_)
          · rw [if_pos hc13] at h
            try simp only [go_sem]
            cases h
            rfl
          · rw [if_neg (ff hc14)] at h
            try simp only [go_sem]
            obtain ⟨r15, hr16, h⟩ := bs h
            replace hr16 := dec_some hr16
            refine WVal_pc hr16 ?_
            try simp only [go_sem]
            refine WBr_split (fun hc17 => ?_) (fun hc18 => ?_)
            · rw [if_pos hc17] at h
              try simp only [go_sem]
              cases h
              rfl
            · rw [if_neg (ff hc18)] at h
              try simp only [go_sem]
              refine WBr_split (fun hc19 => ?_) (fun hc20 => ?_)
              · rw [if_pos hc19] at h
                try simp only [go_sem]
                cases h
                rfl
              · rw [if_neg (ff hc20)] at h
                try simp only [go_sem]
                cases h
                rfl
noncomputable def P54 (a0 : Forest) (a1 : Int) (a2 : Int) : Option (Int × Bool × Int) :=
  (dec (D.int .i64) (pc prog 87 [eForest a0, .list false (([a1, a2]).map (D.int .i64))])).bind fun r1 =>
  if (!(r1 == 0)) = true then
    some (0, false, r1)
  else
    (dec (D.int .i64) (pc prog 104 [eForest a0, .int .i64 a1])).bind fun r5 =>
    (dec (D.int .i64) (pc prog 104 [eForest a0, .int .i64 a2])).bind fun r7 =>
    if (!(r5 == r7)) = true then
      some (0, false, 0)
    else
      (dec (eSl (D.int .i64)) (pc prog 123 [eForest a0, .int .i64 a1])).bind fun r11 =>
      (dec (eSl (D.int .i64)) (pc prog 123 [eForest a0, .int .i64 a2])).bind fun r13 =>
      (dec (D.int .i64) (pc prog 122 [.list r11.n (r11.l.map (D.int .i64)), .list r13.n (r13.l.map (D.int .i64))])).bind fun r15 =>
      some (r15, true, 0)
theorem ok54 (a0 : Forest) (a1 : Int) (a2 : Int) (r : Int × Bool × Int) (h : P54 a0 a1 a2 = some r) : pc prog 54 [eForest a0, .int .i64 a1, .int .i64 a2] = some ((eT3 (D.int .i64) D.bool (D.int .i64)) r) := by
  unfold P54 at h
  refine pc_of (fn := c54) rfl rfl ?_
  delta c54
  try simp only [go_sem]
  obtain ⟨r1, hr2, h⟩ := bs h
  replace hr2 := dec_some hr2
  refine WVal_pc hr2 ?_
  try simp only [go_sem]
  refine WBr_splitN (fun hc3 => ?_) (fun hc4 => ?_)
  · rw [if_pos (show (!(r1 == 0)) = true by (rw [hc3]; rfl))] at h
    try simp only [go_sem]
    cases h
    rfl
  · rw [if_neg (ffn hc4)] at h
    try simp only [go_sem]
    obtain ⟨r5, hr6, h⟩ := bs h
    replace hr6 := dec_some hr6
    refine WVal_pc hr6 ?_
    try simp only [go_sem]
    obtain ⟨r7, hr8, h⟩ := bs h
    replace hr8 := dec_some hr8
    refine WVal_pc hr8 ?_
    try simp only [go_sem]
    refine WBr_splitN (fun hc9 => ?_) (fun hc10 => ?_)
    · rw [if_pos (show (!(r5 == r7)) = true by (rw [hc9]; rfl))] at h
      try simp only [go_sem]
      cases h
      rfl
    · rw [if_neg (ffn hc10)] at h
      try simp only [go_sem]
      obtain ⟨r11, hr12, h⟩ := bs h
      replace hr12 := dec_some hr12
      refine WVal_pc hr12 ?_
      try simp only [go_sem]
      obtain ⟨r13, hr14, h⟩ := bs h
      replace hr14 := dec_some hr14
      refine WVal_pc hr14 ?_
      try simp only [go_sem]
      obtain ⟨r15, hr16, h⟩ := bs h
      replace hr16 := dec_some hr16
      refine WVal_pc hr16 ?_
      try simp only [go_sem]
      cases h
      rfl
noncomputable def L66_0_step (a0 : Sl (Int)) (a1 : Sl (Int)) (x0 : Int) : Option ((Int) ⊕ ((Unit) ⊕ (Unit))) :=
  if (decide (x0 < (a0.l.length : Int))) = true then
    (rd a0.l x0).bind fun y5 =>
    (rd a1.l x0).bind fun y7 =>
    if (!(y5 == y7)) = true then
      some (.inr (.inr ()))
    else
      some (.inl (IntKind.wrap .i64 (x0 + 1)))
  else
    some (.inr (.inl ()))
def L86_0_S (a0 : Forest) (a1 : Int) (x0 : Int) : St := ⟨(((Regs.none.set 0 (.yld 11)).set 1 (.ptr 7 0 0)).set 2 (.ptr 6 0 0)), (((((((Heap.at 12).set 0 (some (.els 1 [.d (eForest a0)] 0))).set 1 (some (.els 1 [.d (.int .i64 a1)] 0))).set 2 (some (.els 1 [.d (.bool false)] 0))).set 6 (some (.els 1 [.d (eForest a0)] 0))).set 7 (some (.els 1 [.d (.int .i64 x0)] 0))).set 11 (some (.loop ⟨((Regs.none.set 4 (.ptr 1 0 0)).set 6 (.ptr 2 0 0)), [11], c86B0, c86B1, .ready, none⟩)))⟩
def L86_0_F (a0 : Forest) (a1 : Int) : ((Int) ⊕ (Int)) → Ex × St := fun r => match r with
  | (.inl r) => (.exit 0, ⟨Regs.none, (((((((Heap.at 12).set 0 (some (.els 1 [.d (eForest a0)] 0))).set 1 (some (.els 1 [.d (.int .i64 a1)] 0))).set 2 (some (.els 1 [.d (.bool false)] 0))).set 6 (some (.els 1 [.d (eForest a0)] 0))).set 7 (some (.els 1 [.d (.int .i64 r)] 0))).set 11 (some (.loop ⟨((Regs.none.set 4 (.ptr 1 0 0)).set 6 (.ptr 2 0 0)), [11], c86B0, c86B1, .ready, none⟩)))⟩)
  | (.inr r) => (.ret, ⟨Regs.none, (((((((Heap.at 12).set 0 (some (.els 1 [.d (eForest a0)] 0))).set 1 (some (.els 1 [.d (.int .i64 a1)] 0))).set 2 (some (.els 1 [.d (.bool true)] 0))).set 6 (some (.els 1 [.d (eForest a0)] 0))).set 7 (some (.els 1 [.d (.int .i64 r)] 0))).set 11 (some (.loop ⟨((Regs.none.set 4 (.ptr 1 0 0)).set 6 (.ptr 2 0 0)), [11], c86B0, c86B1, .done, (some .ret)⟩)))⟩)
noncomputable def L86_0_step (a0 : Forest) (a1 : Int) (x0 : Int) : Option ((Int) ⊕ ((Int) ⊕ (Int))) :=
  if (!(x0 == 0)) = true then
    if (x0 == a1) = true then
      some (.inr (.inr x0))
    else
      (dec eNode (pc prog 91 [eForest a0, .int .i64 x0])).bind fun r5 =>
      some (.inl r5.parent)
  else
    some (.inr (.inl x0))
theorem L86_0_ok (a0 : Forest) (a1 : Int) (x0 : Int) (o : (Int) ⊕ ((Int) ⊕ (Int))) (h : L86_0_step a0 a1 x0 = some o) : Wp prog c173B0 (L86_0_S a0 a1 x0) (LPost 12 (L86_0_S a0 a1) (L86_0_F a0 a1) o) := by
  unfold L86_0_step at h
  delta c173B0 L86_0_S
  try simp only [go_sem]
  refine WBr_splitN (fun hc1 => ?_) (fun hc2 => ?_)
  · rw [if_pos (show (!(x0 == 0)) = true by (rw [hc1]; rfl))] at h
    try simp only [go_sem]
    refine WVal_yld (by simp only [go_sem]; rfl) rfl ?_
    delta c86B0
    try simp only [go_sem]
    delta c86B1
    try simp only [go_sem]
    refine WBr_split (fun hc3 => ?_) (fun hc4 => ?_)
    · rw [if_pos hc3] at h
      try simp only [go_sem]
      cases h
      exact ⟨rfl, by simp, Up.of (N := 12) (N' := 23) [] rfl rfl (by decide) RegsR.none (.set (BlkR.loop (.set (.ptr' rfl) (.set (.ptr' rfl) RegsR.none)) rfl rfl) (.set BlkR.refl_d (.set BlkR.refl_d (.set BlkR.refl_d (.set BlkR.refl_d (.set BlkR.refl_d BlksR.at))))))⟩
    · rw [if_neg (ff hc4)] at h
      try simp only [go_sem]
      obtain ⟨r5, hr6, h⟩ := bs h
      replace hr6 := dec_some hr6
      refine WVal_pc hr6 ?_
      try simp only [go_sem]
      cases h
      exact ⟨rfl, Up.of (N := 12) (N' := 27) [] rfl rfl (by decide) (.set (.ptr' rfl) (.set (.ptr' rfl) (.set (.yld' rfl) RegsR.none))) (.set (BlkR.loop (.set (.ptr' rfl) (.set (.ptr' rfl) RegsR.none)) rfl rfl) (.set BlkR.refl_d (.set BlkR.refl_d (.set BlkR.refl_d (.set BlkR.refl_d (.set BlkR.refl_d BlksR.at))))))⟩
  · rw [if_neg (ffn hc2)] at h
    try simp only [go_sem]
    cases h
    exact ⟨rfl, by simp, Up.of (N := 12) (N' := 14) [] rfl rfl (by decide) RegsR.none (.set (BlkR.loop (.set (.ptr' rfl) (.set (.ptr' rfl) RegsR.none)) rfl rfl) (.set BlkR.refl_d (.set BlkR.refl_d (.set BlkR.refl_d (.set BlkR.refl_d (.set BlkR.refl_d BlksR.at))))))⟩
noncomputable def P86 (a0 : Forest) (a1 : Int) (a2 : Int) : Option (Bool) :=
  (loopV (L86_0_step a0 a1) a2).bind fun r7 =>
  match r7 with
  | (.inl q9) =>
    some false
  | (.inr q10) =>
    some true
theorem ok86 (a0 : Forest) (a1 : Int) (a2 : Int) (r : Bool) (h : P86 a0 a1 a2 = some r) : pc prog 86 [eForest a0, .int .i64 a1, .int .i64 a2] = some (D.bool r) := by
  unfold P86 at h
  refine pc_of (fn := c86) rfl rfl ?_
  delta c86
  try simp only [go_sem]
  refine WVal_inl (fn := c102) rfl rfl ?_
  delta c102
  try simp only [go_sem]
  refine Wp.rfuncC (k := 173) (fn := c173) (first := []) (cap := [.ptr 7 0 0, .ptr 6 0 0]) (by simp only [go_sem]) rfl rfl ?_
  delta c173
  try simp only [go_sem]
  obtain ⟨r7, hl8, h⟩ := bs h
  refine Wp.loopR locs (n := 12) (a := c173B0) rfl (L86_0_S a0 a1) (L86_0_F a0 a1) (L86_0_ok a0 a1) hl8 ?_ (by (repeat (refine Clo.block ?_)); refine Clo.rf (n' := 0) ?_ (by decide) (by decide) ?_; ((repeat (first | refine SelfR.set ?_ ?_ | refine SelfR.args ?_ | exact SelfL.nil | refine SelfL.cons ?_ ?_ | exact Self.d | exact Self.ptr (by decide) | refine Self.clo ?_ ?_))); (repeat (first | refine Clo.block ?_ | refine Clo.seq locs rfl ?_)); (exact Clo.ret)) ?_
  · show Up 12 (L86_0_S a0 a1 a2) _
    delta L86_0_S
    exact Up.of (N := 12) (N' := 12) [] rfl rfl (by decide) (.set (.ptr' rfl) (.set (.ptr' rfl) (.set (.yld' rfl) RegsR.none))) (.set (BlkR.loop (.set (.ptr' rfl) (.set (.ptr' rfl) RegsR.none)) rfl rfl) (.set BlkR.refl_d (.set BlkR.refl_d (.set BlkR.refl_d (.set BlkR.refl_d (.set BlkR.refl_d BlksR.at))))))
  · rcases r7 with (q9 | q10)
    · dsimp only at h
      dsimp only [L86_0_F]
      try simp only [go_sem]
      cases h
      rfl
    · dsimp only at h
      dsimp only [L86_0_F]
      try simp only [go_sem]
      cases h
      rfl
def L87_0_S (a0 : Forest) (a1 : Sl (Int)) (x0 : Int) : St := ⟨((((Regs.none.set 2 (.ptr 0 0 0)).set 17 (.d (.list a1.n (a1.l.map (D.int .i64))))).set 18 (.d (.int .i64 (a1.l.length : Int)))).set 19 (.d (.int .i64 x0))), ((Heap.at 14).set 0 (some (.els 1 [.d (eForest a0)] 0)))⟩
def L87_0_F (a0 : Forest) (a1 : Sl (Int)) : ((Unit) ⊕ (Unit)) → Ex × St := fun r => match r with
  | (.inl r) => (.exit 0, ⟨Regs.none, (Heap.at 14)⟩)
  | (.inr r) => (.ret, ⟨(Regs.none.set 4 (.d (.int .i64 (2)))), (Heap.at 14)⟩)
noncomputable def L87_0_step (a0 : Forest) (a1 : Sl (Int)) (x0 : Int) : Option ((Int) ⊕ ((Unit) ⊕ (Unit))) :=
  if (decide (x0 < (a1.l.length : Int))) = true then
    (rd a1.l x0).bind fun y7 =>
    if (bif (decide (y7 < 1)) then true else (decide ((a0.nodes.l.length : Int) < y7))) = true then
      some (.inr (.inr ()))
    else
      some (.inl (IntKind.wrap .i64 (x0 + 1)))
  else
    some (.inr (.inl ()))
theorem L87_0_ok (a0 : Forest) (a1 : Sl (Int)) (x0 : Int) (o : (Int) ⊕ ((Unit) ⊕ (Unit))) (h : L87_0_step a0 a1 x0 = some o) : Wp prog c87B0 (L87_0_S a0 a1 x0) (LPost 0 (L87_0_S a0 a1) (L87_0_F a0 a1) o) := by
  unfold L87_0_step at h
  delta c87B0 L87_0_S
  try simp only [go_sem]
  refine WBr_split (fun hc5 => ?_) (fun hc6 => ?_)
  · rw [if_pos hc5] at h
    try simp only [go_sem]
    obtain ⟨y7, hy8, h⟩ := bs h
    try simp only [go_sem, rd_pos hy8, rd_ge hy8, rd_map (D.int .i64) hy8]
    refine WGuard_pure (v := .d (.int .i64 y7)) (fun hb15 => by (simp only [go_sem, rd_pos hy8, rd_ge hy8, rd_map (D.int .i64) hy8, hc5, hb15]; done)) ?_
    try simp only [go_sem, rd_pos hy8, rd_ge hy8, rd_map (D.int .i64) hy8]
    refine WGuard_pure (v := .ptr 0 0 0) (fun hb14 => by (simp only [go_sem, rd_pos hy8, rd_ge hy8, rd_map (D.int .i64) hy8, hc5, hb14]; done)) ?_
    try simp only [go_sem, rd_pos hy8, rd_ge hy8, rd_map (D.int .i64) hy8]
    refine WGuard_pure (v := .d (.list a0.nodes.n (a0.nodes.l.map eNode))) (fun hb13 => by (simp only [go_sem, rd_pos hy8, rd_ge hy8, rd_map (D.int .i64) hy8, hc5, hb13]; done)) ?_
    try simp only [go_sem, rd_pos hy8, rd_ge hy8, rd_map (D.int .i64) hy8]
    refine WGuard_pure (v := .d (.int .i64 (a0.nodes.l.length : Int))) (fun hb12 => by (simp only [go_sem, rd_pos hy8, rd_ge hy8, rd_map (D.int .i64) hy8, hc5, hb12]; done)) ?_
    try simp only [go_sem, rd_pos hy8, rd_ge hy8, rd_map (D.int .i64) hy8]
    refine WGuard_pure (v := .d (.bool (decide ((a0.nodes.l.length : Int) < y7)))) (fun hb11 => by (simp only [go_sem, rd_pos hy8, rd_ge hy8, rd_map (D.int .i64) hy8, hc5, hb11]; done)) ?_
    try simp only [go_sem, rd_pos hy8, rd_ge hy8, rd_map (D.int .i64) hy8]
    refine WBr_split (fun hc9 => ?_) (fun hc10 => ?_)
    · rw [if_pos hc9] at h
      try simp only [go_sem, rd_pos hy8, rd_ge hy8, rd_map (D.int .i64) hy8]
      cases h
      exact ⟨rfl, by simp, Up.of (N := 14) (N' := 28) [] rfl rfl (by decide) (.set (.d _) RegsR.none) BlksR.at⟩
    · rw [if_neg (ff hc10)] at h
      try simp only [go_sem, rd_pos hy8, rd_ge hy8, rd_map (D.int .i64) hy8]
      cases h
      exact ⟨rfl, Up.of (N := 14) (N' := 29) [] rfl rfl (by decide) (.set (.d _) (.set (.d _) (.set (.d _) (.set (.ptr' rfl) RegsR.none)))) (.set BlkR.refl_d BlksR.at)⟩
  · rw [if_neg (ff hc6)] at h
    try simp only [go_sem]
    cases h
    exact ⟨rfl, by simp, Up.of (N := 14) (N' := 15) [] rfl rfl (by decide) RegsR.none BlksR.at⟩
noncomputable def P87 (a0 : Forest) (a1 : Sl (Int)) : Option (Int) :=
  (dec (eT2 (D.int .i64) (D.int .i64)) (pc prog 157 [eForest a0])).bind fun r1 =>
  if (!(r1.1 == 0)) = true then
    some r1.1
  else
    (loopV (L87_0_step a0 a1) 0).bind fun r16 =>
    match r16 with
    | (.inl q18) =>
      some (0)
    | (.inr q19) =>
      some (2)
theorem ok87 (a0 : Forest) (a1 : Sl (Int)) (r : Int) (h : P87 a0 a1 = some r) : pc prog 87 [eForest a0, .list a1.n (a1.l.map (D.int .i64))] = some ((D.int .i64) r) := by
  unfold P87 at h
  refine pc_of (fn := c87) rfl rfl ?_
  delta c87
  try simp only [go_sem]
  obtain ⟨r1, hr2, h⟩ := bs h
  replace hr2 := dec_some hr2
  refine WVal_pc hr2 ?_
  try simp only [go_sem]
  refine WBr_splitN (fun hc3 => ?_) (fun hc4 => ?_)
  · rw [if_pos (show (!(r1.1 == 0)) = true by (rw [hc3]; rfl))] at h
    try simp only [go_sem]
    cases h
    rfl
  · rw [if_neg (ffn hc4)] at h
    try simp only [go_sem]
    obtain ⟨r16, hl17, h⟩ := bs h
    refine Wp.loopR locs (n := 0) (a := c87B0) rfl (L87_0_S a0 a1) (L87_0_F a0 a1) (L87_0_ok a0 a1) hl17 ?_ (by (repeat (first | refine Clo.block ?_ | refine Clo.seq locs rfl ?_)); (exact Clo.ret)) ?_
    · show Up 0 (L87_0_S a0 a1 0) _
      delta L87_0_S
      exact Up.of (N := 14) (N' := 14) [] rfl rfl (by decide) (.set (.d _) (.set (.d _) (.set (.d _) (.set (.ptr' rfl) RegsR.none)))) (.set BlkR.refl_d BlksR.at)
    · rcases r16 with (q18 | q19)
      · dsimp only at h
        dsimp only [L87_0_F]
        try simp only [go_sem]
        cases h
        rfl
      · dsimp only at h
        dsimp only [L87_0_F]
        try simp only [go_sem]
        cases h
        rfl
noncomputable def P91 (a0 : Forest) (a1 : Int) : Option (Node) :=
  if (bif (decide (a1 < 1)) then true else (decide ((a0.nodes.l.length : Int) < a1))) = true then
    some (⟨0, ⟨[], [], []⟩, [], [], ⟨true, []⟩, ⟨true, []⟩, 0, ⟨true, []⟩, 0, 0, 0, 0, false, false⟩ : Node)
  else
    (rd a0.nodes.l (IntKind.wrap .i64 (a1 - 1))).bind fun y3 =>
    some y3
theorem ok91 (a0 : Forest) (a1 : Int) (r : Node) (h : P91 a0 a1 = some r) : pc prog 91 [eForest a0, .int .i64 a1] = some (eNode r) := by
  unfold P91 at h
  refine pc_of (fn := c91) rfl rfl ?_
  delta c91
  try simp only [go_sem]
  refine WGuard_pure (v := .d (.int .i64 a1)) (fun hb9 => by (simp only [go_sem, hb9]; done)) ?_
  try simp only [go_sem]
  refine WGuard_pure (v := .ptr 0 0 0) (fun hb8 => by (simp only [go_sem, hb8]; done)) ?_
  try simp only [go_sem]
  refine WGuard_pure (v := .d (.list a0.nodes.n (a0.nodes.l.map eNode))) (fun hb7 => by (simp only [go_sem, hb7]; done)) ?_
  try simp only [go_sem]
  refine WGuard_pure (v := .d (.int .i64 (a0.nodes.l.length : Int))) (fun hb6 => by (simp only [go_sem, hb6]; done)) ?_
  try simp only [go_sem]
  refine WGuard_pure (v := .d (.bool (decide ((a0.nodes.l.length : Int) < a1)))) (fun hb5 => by (simp only [go_sem, hb5]; done)) ?_
  try simp only [go_sem]
  refine WBr_split (fun hc1 => ?_) (fun hc2 => ?_)
  · rw [if_pos hc1] at h
    try simp only [go_sem]
    cases h
    rfl
  · rw [if_neg (ff hc2)] at h
    try simp only [go_sem]
    obtain ⟨y3, hy4, h⟩ := bs h
    try simp only [go_sem, rd_pos hy4, rd_ge hy4, rd_map eNode hy4]
    cases h
    rfl
def L104_0_S (a0 : Forest) (x0 : Int × Int) : St := ⟨(((Regs.none.set 0 (.yld 13)).set 1 (.ptr 9 0 0)).set 2 (.ptr 8 0 0)), ((((((Heap.at 14).set 0 (some (.els 1 [.d (eForest a0)] 0))).set 3 (some (.els 1 [.d (.int .i64 x0.1)] 0))).set 8 (some (.els 1 [.d (eForest a0)] 0))).set 9 (some (.els 1 [.d (.int .i64 x0.2)] 0))).set 13 (some (.loop ⟨(Regs.none.set 5 (.ptr 3 0 0)), [11], c104B0, c104B1, .ready, none⟩)))⟩
def L104_0_F (a0 : Forest) : ((Int × Int)) → Ex × St := fun r => (.exit 0, ⟨Regs.none, ((((((Heap.at 14).set 0 (some (.els 1 [.d (eForest a0)] 0))).set 3 (some (.els 1 [.d (.int .i64 r.1)] 0))).set 8 (some (.els 1 [.d (eForest a0)] 0))).set 9 (some (.els 1 [.d (.int .i64 r.2)] 0))).set 13 (some (.loop ⟨(Regs.none.set 5 (.ptr 3 0 0)), [11], c104B0, c104B1, .ready, none⟩)))⟩)
noncomputable def L104_0_step (a0 : Forest) (x0 : Int × Int) : Option ((Int × Int) ⊕ ((Int × Int))) :=
  if (!(x0.2 == 0)) = true then
    (dec eNode (pc prog 91 [eForest a0, .int .i64 x0.2])).bind fun r3 =>
    some (.inl (x0.2, r3.parent))
  else
    some (.inr (x0.1, x0.2))
theorem L104_0_ok (a0 : Forest) (x0 : Int × Int) (o : (Int × Int) ⊕ ((Int × Int))) (h : L104_0_step a0 x0 = some o) : Wp prog c173B0 (L104_0_S a0 x0) (LPost 14 (L104_0_S a0) (L104_0_F a0) o) := by
  unfold L104_0_step at h
  delta c173B0 L104_0_S
  try simp only [go_sem]
  refine WBr_splitN (fun hc1 => ?_) (fun hc2 => ?_)
  · rw [if_pos (show (!(x0.2 == 0)) = true by (rw [hc1]; rfl))] at h
    try simp only [go_sem]
    refine WVal_yld (by simp only [go_sem]; rfl) rfl ?_
    delta c104B0
    try simp only [go_sem]
    delta c104B1
    try simp only [go_sem]
    obtain ⟨r3, hr4, h⟩ := bs h
    replace hr4 := dec_some hr4
    refine WVal_pc hr4 ?_
    try simp only [go_sem]
    cases h
    exact ⟨rfl, Up.of (N := 14) (N' := 28) [] rfl rfl (by decide) (.set (.ptr' rfl) (.set (.ptr' rfl) (.set (.yld' rfl) RegsR.none))) (.set (BlkR.loop (.set (.ptr' rfl) RegsR.none) rfl rfl) (.set BlkR.refl_d (.set BlkR.refl_d (.set BlkR.refl_d (.set BlkR.refl_d BlksR.at)))))⟩
  · rw [if_neg (ffn hc2)] at h
    try simp only [go_sem]
    cases h
    exact ⟨rfl, by simp, Up.of (N := 14) (N' := 16) [] rfl rfl (by decide) RegsR.none (.set (BlkR.loop (.set (.ptr' rfl) RegsR.none) rfl rfl) (.set BlkR.refl_d (.set BlkR.refl_d (.set BlkR.refl_d (.set BlkR.refl_d BlksR.at)))))⟩
noncomputable def P104 (a0 : Forest) (a1 : Int) : Option (Int) :=
  (loopV (L104_0_step a0) (a1, a1)).bind fun r5 =>
  some r5.1
theorem ok104 (a0 : Forest) (a1 : Int) (r : Int) (h : P104 a0 a1 = some r) : pc prog 104 [eForest a0, .int .i64 a1] = some ((D.int .i64) r) := by
  unfold P104 at h
  refine pc_of (fn := c104) rfl rfl ?_
  delta c104
  try simp only [go_sem]
  refine WVal_inl (fn := c102) rfl rfl ?_
  delta c102
  try simp only [go_sem]
  refine Wp.rfuncC (k := 173) (fn := c173) (first := []) (cap := [.ptr 9 0 0, .ptr 8 0 0]) (by simp only [go_sem]) rfl rfl ?_
  delta c173
  try simp only [go_sem]
  obtain ⟨r5, hl6, h⟩ := bs h
  refine Wp.loopR locs (n := 14) (a := c173B0) rfl (L104_0_S a0) (L104_0_F a0) (L104_0_ok a0) hl6 ?_ (by (repeat (refine Clo.block ?_)); refine Clo.rf (n' := 0) ?_ (by decide) (by decide) ?_; ((repeat (first | refine SelfR.set ?_ ?_ | refine SelfR.args ?_ | exact SelfL.nil | refine SelfL.cons ?_ ?_ | exact Self.d | exact Self.ptr (by decide) | refine Self.clo ?_ ?_))); (repeat (first | refine Clo.block ?_ | refine Clo.seq locs rfl ?_)); (exact Clo.ret)) ?_
  · show Up 14 (L104_0_S a0 (a1, a1)) _
    delta L104_0_S
    exact Up.of (N := 14) (N' := 14) [] rfl rfl (by decide) (.set (.ptr' rfl) (.set (.ptr' rfl) (.set (.yld' rfl) RegsR.none))) (.set (BlkR.loop (.set (.ptr' rfl) RegsR.none) rfl rfl) (.set BlkR.refl_d (.set BlkR.refl_d (.set BlkR.refl_d (.set BlkR.refl_d BlksR.at)))))
  · dsimp only [L104_0_F]
    try simp only [go_sem]
    cases h
    rfl
def L122_0_S (a0 : Sl (Int)) (a1 : Sl (Int)) (x0 : Int) : St := ⟨(((((Regs.none.set 0 (.d (.list a0.n (a0.l.map (D.int .i64))))).set 1 (.d (.list a1.n (a1.l.map (D.int .i64))))).set 9 (.d (.list a0.n (a0.l.map (D.int .i64))))).set 10 (.d (.int .i64 (a0.l.length : Int)))).set 11 (.d (.int .i64 x0))), (Heap.at 4)⟩
def L122_0_F (a0 : Sl (Int)) (a1 : Sl (Int)) : ((Unit) ⊕ (Int)) → Ex × St := fun r => match r with
  | (.inl r) => (.exit 0, ⟨((Regs.none.set 0 (.d (.list a0.n (a0.l.map (D.int .i64))))).set 1 (.d (.list a1.n (a1.l.map (D.int .i64))))), (Heap.at 4)⟩)
  | (.inr r) => (.ret, ⟨(Regs.none.set 4 (.d (.int .i64 r))), (Heap.at 4)⟩)
noncomputable def L122_0_step (a0 : Sl (Int)) (a1 : Sl (Int)) (x0 : Int) : Option ((Int) ⊕ ((Unit) ⊕ (Int))) :=
  if (decide (x0 < (a0.l.length : Int))) = true then
    (rd a0.l x0).bind fun y3 =>
    if (decide ((a1.l.length : Int) ≤ x0)) = true then
      some (.inr (.inr 1))
    else
      (rd a1.l x0).bind fun y7 =>
      (dec (D.int .i64) (pc prog 180 [.int .i64 y3, .int .i64 y7])).bind fun r9 =>
      if (!(r9 == 0)) = true then
        some (.inr (.inr r9))
      else
        some (.inl (IntKind.wrap .i64 (x0 + 1)))
  else
    some (.inr (.inl ()))
theorem L122_0_ok (a0 : Sl (Int)) (a1 : Sl (Int)) (x0 : Int) (o : (Int) ⊕ ((Unit) ⊕ (Int))) (h : L122_0_step a0 a1 x0 = some o) : Wp prog c122B0 (L122_0_S a0 a1 x0) (LPost 0 (L122_0_S a0 a1) (L122_0_F a0 a1) o) := by
  unfold L122_0_step at h
  delta c122B0 L122_0_S
  try simp only [go_sem]
  refine WBr_split (fun hc1 => ?_) (fun hc2 => ?_)
  · rw [if_pos hc1] at h
    try simp only [go_sem]
    obtain ⟨y3, hy4, h⟩ := bs h
    try simp only [go_sem, rd_pos hy4, rd_ge hy4, rd_map (D.int .i64) hy4]
    refine WBr_split (fun hc5 => ?_) (fun hc6 => ?_)
    · rw [if_pos hc5] at h
      try simp only [go_sem, rd_pos hy4, rd_ge hy4, rd_map (D.int .i64) hy4]
      cases h
      exact ⟨rfl, by simp, Up.of (N := 4) (N' := 15) [] rfl rfl (by decide) (.set (.d _) RegsR.none) BlksR.at⟩
    · rw [if_neg (ff hc6)] at h
      try simp only [go_sem, rd_pos hy4, rd_ge hy4, rd_map (D.int .i64) hy4]
      obtain ⟨y7, hy8, h⟩ := bs h
      try simp only [go_sem, rd_pos hy4, rd_ge hy4, rd_map (D.int .i64) hy4, rd_pos hy8, rd_ge hy8, rd_map (D.int .i64) hy8]
      obtain ⟨r9, hr10, h⟩ := bs h
      replace hr10 := dec_some hr10
      refine WVal_pc hr10 ?_
      try simp only [go_sem, rd_pos hy4, rd_ge hy4, rd_map (D.int .i64) hy4, rd_pos hy8, rd_ge hy8, rd_map (D.int .i64) hy8]
      refine WBr_splitN (fun hc11 => ?_) (fun hc12 => ?_)
      · rw [if_pos (show (!(r9 == 0)) = true by (rw [hc11]; rfl))] at h
        try simp only [go_sem, rd_pos hy4, rd_ge hy4, rd_map (D.int .i64) hy4, rd_pos hy8, rd_ge hy8, rd_map (D.int .i64) hy8]
        cases h
        exact ⟨rfl, by simp, Up.of (N := 4) (N' := 27) [] rfl rfl (by decide) (.set (.d _) RegsR.none) BlksR.at⟩
      · rw [if_neg (ffn hc12)] at h
        try simp only [go_sem, rd_pos hy4, rd_ge hy4, rd_map (D.int .i64) hy4, rd_pos hy8, rd_ge hy8, rd_map (D.int .i64) hy8]
        cases h
        exact ⟨rfl, Up.of (N := 4) (N' := 27) [] rfl rfl (by decide) (.set (.d _) (.set (.d _) (.set (.d _) (.set (.d _) (.set (.d _) RegsR.none))))) BlksR.at⟩
  · rw [if_neg (ff hc2)] at h
    try simp only [go_sem]
    cases h
    exact ⟨rfl, by simp, Up.of (N := 4) (N' := 5) [] rfl rfl (by decide) (.set (.d _) (.set (.d _) RegsR.none)) BlksR.at⟩
noncomputable def P122 (a0 : Sl (Int)) (a1 : Sl (Int)) : Option (Int) :=
  (loopV (L122_0_step a0 a1) 0).bind fun r13 =>
  match r13 with
  | (.inl q15) =>
    if (decide ((a0.l.length : Int) < (a1.l.length : Int))) = true then
      some (-1)
    else
      some (0)
  | (.inr q18) =>
    some q18
theorem ok122 (a0 : Sl (Int)) (a1 : Sl (Int)) (r : Int) (h : P122 a0 a1 = some r) : pc prog 122 [.list a0.n (a0.l.map (D.int .i64)), .list a1.n (a1.l.map (D.int .i64))] = some ((D.int .i64) r) := by
  unfold P122 at h
  refine pc_of (fn := c122) rfl rfl ?_
  delta c122
  try simp only [go_sem]
  obtain ⟨r13, hl14, h⟩ := bs h
  refine Wp.loopR locs (n := 0) (a := c122B0) rfl (L122_0_S a0 a1) (L122_0_F a0 a1) (L122_0_ok a0 a1) hl14 ?_ (by (repeat (first | refine Clo.block ?_ | refine Clo.seq locs rfl ?_)); (exact Clo.ret)) ?_
  · show Up 0 (L122_0_S a0 a1 0) _
    delta L122_0_S
    exact Up.of (N := 4) (N' := 4) [] rfl rfl (by decide) (.set (.d _) (.set (.d _) (.set (.d _) (.set (.d _) (.set (.d _) RegsR.none))))) BlksR.at
  · rcases r13 with (q15 | q18)
    · dsimp only at h
      dsimp only [L122_0_F]
      try simp only [go_sem]
      refine WBr_split (fun hc16 => ?_) (fun hc17 => ?_)
      · rw [if_pos hc16] at h
        try simp only [go_sem]
        cases h
        rfl
      · rw [if_neg (ff hc17)] at h
        try simp only [go_sem]
        cases h
        rfl
    · dsimp only at h
      dsimp only [L122_0_F]
      try simp only [go_sem]
      cases h
      rfl
def L123_0_S (a0 : Forest) (x0 : List (Int) × Int) : St := ⟨(((Regs.none.set 0 (.yld 11)).set 1 (.ptr 7 0 0)).set 2 (.ptr 6 0 0)), (((((((Heap.at 31).set 0 (some (.els 1 [.d (eForest a0)] 0))).set 2 (some (.els 1 [.sl 24 0 x0.1.length] 0))).set 6 (some (.els 1 [.d (eForest a0)] 0))).set 7 (some (.els 1 [.d (.int .i64 x0.2)] 0))).set 11 (some (.loop ⟨((Regs.none.set 2 (.ptr 0 0 0)).set 5 (.ptr 2 0 0)), [10], c123B0, c123B1, .ready, none⟩))).set 24 (some (.els 1 (x0.1.map fun z => V.d ((D.int .i64) z)) (0))))⟩
def L123_0_F (a0 : Forest) : ((Int × List (Int))) → Ex × St := fun r => (.exit 0, ⟨Regs.none, (((((((Heap.at 31).set 0 (some (.els 1 [.d (eForest a0)] 0))).set 2 (some (.els 1 [.sl 30 0 r.2.length] 0))).set 6 (some (.els 1 [.d (eForest a0)] 0))).set 7 (some (.els 1 [.d (.int .i64 r.1)] 0))).set 11 (some (.loop ⟨((Regs.none.set 2 (.ptr 0 0 0)).set 5 (.ptr 2 0 0)), [10], c123B0, c123B1, .ready, none⟩))).set 30 (some (.els 1 (r.2.map fun z => V.d ((D.int .i64) z)) (0))))⟩)
noncomputable def L123_0_step (a0 : Forest) (x0 : List (Int) × Int) : Option ((List (Int) × Int) ⊕ ((Int × List (Int)))) :=
  if (!(x0.2 == 0)) = true then
    (dec (D.int .i64) (pc prog 146 [eForest a0, .int .i64 x0.2])).bind fun r10 =>
    if (x0.1.length + 1) * 8 ≤ AI.roomBytes then
      (dec eNode (pc prog 91 [eForest a0, .int .i64 x0.2])).bind fun r13 =>
      some (.inl ((x0.1 ++ [r10]), r13.parent))
    else none
  else
    some (.inr (x0.2, x0.1))
theorem L123_0_ok (a0 : Forest) (x0 : List (Int) × Int) (o : (List (Int) × Int) ⊕ ((Int × List (Int)))) (h : L123_0_step a0 x0 = some o) : Wp prog c173B0 (L123_0_S a0 x0) (LPost 12 (L123_0_S a0) (L123_0_F a0) o) := by
  unfold L123_0_step at h
  delta c173B0 L123_0_S
  try simp only [go_sem]
  refine WBr_splitN (fun hc8 => ?_) (fun hc9 => ?_)
  · rw [if_pos (show (!(x0.2 == 0)) = true by (rw [hc8]; rfl))] at h
    try simp only [go_sem]
    refine WVal_yld (by simp only [go_sem]; rfl) rfl ?_
    delta c123B0
    try simp only [go_sem]
    delta c123B1
    try simp only [go_sem]
    obtain ⟨r10, hr11, h⟩ := bs h
    replace hr11 := dec_some hr11
    refine WVal_pc hr11 ?_
    try simp only [go_sem]
    obtain ⟨hm12, h⟩ := ite_some h
    refine WVal_appS (l := x0.1.map fun z => V.d ((D.int .i64) z)) (fz := 0) (new := [V.d (.int .i64 r10)]) (by simp only [go_sem, List.map_append, List.map_cons, List.map_nil]) (by simp only [go_sem, elsOf_sl, elsB_all, elsB_one, elsOf_list, mapVd]) (by simp) (by simp only [go_sem]) (by simp) (by simpa using hm12) ?_
    try simp only [go_sem, hm12]
    obtain ⟨r13, hr14, h⟩ := bs h
    replace hr14 := dec_some hr14
    refine WVal_pc hr14 ?_
    try simp only [go_sem, hm12]
    cases h
    exact ⟨rfl, Up.of (N := 31) (N' := 50) [(24, 43)] rfl rfl (by decide) (.set (.ptr' rfl) (.set (.ptr' rfl) (.set (.yld' rfl) RegsR.none))) (.set (BlkR.arr (e := (D.int .i64)) (l := (x0.1 ++ [r10])) (by simp) (by exact Nat.le_refl _)) (.set (BlkR.loop (.set (.ptr' rfl) (.set (.ptr' rfl) RegsR.none)) rfl rfl) (.set BlkR.refl_d (.set BlkR.refl_d (.set (BlkR.els (Nat.le_refl _) (.cons (.sl'' rfl (by (simp; done))) .nil)) (.set BlkR.refl_d BlksR.at))))))⟩
  · rw [if_neg (ffn hc9)] at h
    try simp only [go_sem]
    cases h
    exact ⟨rfl, by simp, Up.of (N := 31) (N' := 33) [(24, 30), (30, 24)] rfl rfl (by decide) RegsR.none (.set (BlkR.arr (e := (D.int .i64)) (l := x0.1) (by rfl) (by exact Nat.le_refl _)) (.set (BlkR.loop (.set (.ptr' rfl) (.set (.ptr' rfl) RegsR.none)) rfl rfl) (.set BlkR.refl_d (.set BlkR.refl_d (.set (BlkR.els (Nat.le_refl _) (.cons (.sl'' rfl (by rfl)) .nil)) (.set BlkR.refl_d BlksR.at))))))⟩
def L123_1_S (a0 : Forest) (r15 : Int × List (Int)) (x1 : List (Int) × Int × Int) : St := ⟨(((Regs.none.set 0 (.sl 30 0 r15.2.length)).set 2 (.d (.int .i64 x1.2.1))).set 3 (.d (.int .i64 x1.2.2))), ((((((Heap.at 38).set 0 (some (.els 1 [.d (eForest a0)] 0))).set 2 (some (.els 1 [.sl 30 0 r15.2.length] 0))).set 6 (some (.els 1 [.d (eForest a0)] 0))).set 7 (some (.els 1 [.d (.int .i64 r15.1)] 0))).set 30 (some (.els 1 (x1.1.map fun z => V.d ((D.int .i64) z)) (0))))⟩
def L123_1_F (a0 : Forest) (r15 : Int × List (Int)) : ((List (Int))) → Ex × St := fun r => (.exit 0, ⟨Regs.none, ((((((Heap.at 38).set 0 (some (.els 1 [.d (eForest a0)] 0))).set 2 (some (.els 1 [.sl 30 0 r15.2.length] 0))).set 6 (some (.els 1 [.d (eForest a0)] 0))).set 7 (some (.els 1 [.d (.int .i64 r15.1)] 0))).set 30 (some (.els 1 (r.map fun z => V.d ((D.int .i64) z)) (0))))⟩)
noncomputable def L123_1_step (a0 : Forest) (r15 : Int × List (Int)) (x1 : List (Int) × Int × Int) : Option ((List (Int) × Int × Int) ⊕ ((List (Int)))) :=
  if (decide (x1.2.1 < x1.2.2)) = true then
    (rdA x1.1 r15.2.length x1.2.2).bind fun y19 =>
    (rdA x1.1 r15.2.length x1.2.1).bind fun y21 =>
    (rdA (x1.1.set (x1.2.1).toNat y19) r15.2.length x1.2.2).bind fun y23 =>
    some (.inl (((x1.1.set (x1.2.1).toNat y19).set (x1.2.2).toNat y21), (IntKind.wrap .i64 (x1.2.1 + 1)), (IntKind.wrap .i64 (x1.2.2 - 1))))
  else
    some (.inr x1.1)
theorem L123_1_ok (a0 : Forest) (r15 : Int × List (Int)) (x1 : List (Int) × Int × Int) (o : (List (Int) × Int × Int) ⊕ ((List (Int)))) (h : L123_1_step a0 r15 x1 = some o) : Wp prog c181B0 (L123_1_S a0 r15 x1) (LPost 33 (L123_1_S a0 r15) (L123_1_F a0 r15) o) := by
  unfold L123_1_step at h
  delta c181B0 L123_1_S
  try simp only [go_sem]
  refine WBr_split (fun hc17 => ?_) (fun hc18 => ?_)
  · rw [if_pos hc17] at h
    try simp only [go_sem]
    obtain ⟨y19, hy20, h⟩ := bs h
    try simp only [go_sem, rdA_pos hy20, rdA_ge hy20, rdA_lt hy20, rdA_len hy20, rdA_map (D.int .i64) hy20]
    obtain ⟨y21, hy22, h⟩ := bs h
    try simp only [go_sem, rdA_pos hy20, rdA_ge hy20, rdA_lt hy20, rdA_len hy20, rdA_map (D.int .i64) hy20, rdA_pos hy22, rdA_ge hy22, rdA_lt hy22, rdA_len hy22, rdA_map (D.int .i64) hy22]
    obtain ⟨y23, hy24, h⟩ := bs h
    try simp only [go_sem, rdA_pos hy20, rdA_ge hy20, rdA_lt hy20, rdA_len hy20, rdA_map (D.int .i64) hy20, rdA_pos hy22, rdA_ge hy22, rdA_lt hy22, rdA_len hy22, rdA_map (D.int .i64) hy22, set_map (x := y19) (D.int .i64) (rdA_len hy22), set_len (x := y19) (rdA_len hy22), rdA_pos hy24, rdA_ge hy24, rdA_lt hy24, rdA_len hy24, rdA_map (D.int .i64) hy24]
    cases h
    exact ⟨rfl, Up.of (N := 38) (N' := 63) [] rfl rfl (by decide) (.set (.d _) (.set (.d _) (.set (.sl'' rfl (by rfl)) RegsR.none))) (.set (BlkR.arr (e := (D.int .i64)) (l := ((x1.1.set (x1.2.1).toNat y19).set (x1.2.2).toNat y21)) (by rfl) (by exact Nat.le_refl _)) (.set BlkR.refl_d (.set BlkR.refl_d (.set (BlkR.els (Nat.le_refl _) (.cons (.sl'' rfl (by rfl)) .nil)) (.set BlkR.refl_d BlksR.at)))))⟩
  · rw [if_neg (ff hc18)] at h
    try simp only [go_sem]
    cases h
    exact ⟨rfl, by simp, Up.of (N := 38) (N' := 41) [] rfl rfl (by decide) RegsR.none (.set (BlkR.arr (e := (D.int .i64)) (l := x1.1) (by rfl) (by exact Nat.le_refl _)) (.set BlkR.refl_d (.set BlkR.refl_d (.set (BlkR.els (Nat.le_refl _) (.cons (.sl'' rfl (by rfl)) .nil)) (.set BlkR.refl_d BlksR.at)))))⟩
def L123_2_S (a0 : Forest) (a1 : Int) (x2 : Unit) : St := ⟨(((Regs.none.set 0 (.d (.list true []))).set 2 (.d (.int .i64 (0)))).set 3 (.d (.int .i64 (IntKind.wrap .i64 (0 - 1))))), (((((Heap.at 21).set 0 (some (.els 1 [.d (eForest a0)] 0))).set 2 (some (.els 1 [.d (.list true [])] 0))).set 6 (some (.els 1 [.d (eForest a0)] 0))).set 7 (some (.els 1 [.d (.int .i64 a1)] 0)))⟩
def L123_2_F (a0 : Forest) (a1 : Int) : ((Unit)) → Ex × St := fun r => (.exit 0, ⟨Regs.none, (((((Heap.at 21).set 0 (some (.els 1 [.d (eForest a0)] 0))).set 2 (some (.els 1 [.d (.list true [])] 0))).set 6 (some (.els 1 [.d (eForest a0)] 0))).set 7 (some (.els 1 [.d (.int .i64 a1)] 0)))⟩)
noncomputable def L123_2_step (a0 : Forest) (a1 : Int) (x2 : Unit) : Option ((Unit) ⊕ ((Unit))) :=
  if (decide (0 < (IntKind.wrap .i64 (0 - 1)))) = true then
    none
  else
    some (.inr ())
theorem L123_2_ok (a0 : Forest) (a1 : Int) (x2 : Unit) (o : (Unit) ⊕ ((Unit))) (h : L123_2_step a0 a1 x2 = some o) : Wp prog c181B0 (L123_2_S a0 a1 x2) (LPost 16 (L123_2_S a0 a1) (L123_2_F a0 a1) o) := by
  unfold L123_2_step at h
  delta c181B0 L123_2_S
  try simp only [go_sem]
  refine WBr_split (fun hc28 => ?_) (fun hc29 => ?_)
  · rw [if_pos (show (decide (0 < (IntKind.wrap .i64 (0 - 1)))) = true by exact hc28)] at h
    try simp only [go_sem]
    cases h
  · rw [if_neg (show ¬ (decide (0 < (IntKind.wrap .i64 (0 - 1)))) = true by simpa using hc29)] at h
    try simp only [go_sem]
    cases h
    exact ⟨rfl, by simp, Up.of (N := 21) (N' := 24) [] rfl rfl (by decide) RegsR.none (.set BlkR.refl_d (.set BlkR.refl_d (.set BlkR.refl_d (.set BlkR.refl_d BlksR.at))))⟩
noncomputable def P123 (a0 : Forest) (a1 : Int) : Option (Sl (Int)) :=
  if (!(a1 == 0)) = true then
    (dec (D.int .i64) (pc prog 146 [eForest a0, .int .i64 a1])).bind fun r3 =>
    if 1 * 8 ≤ AI.roomBytes then
      (dec eNode (pc prog 91 [eForest a0, .int .i64 a1])).bind fun r6 =>
      (loopV (L123_0_step a0) ([r3], r6.parent)).bind fun r15 =>
      (loopV (L123_1_step a0 r15) (r15.2, 0, (IntKind.wrap .i64 (((r15.2.length : Nat) : Int) - 1)))).bind fun r25 =>
      if r25.length = r15.2.length then
        some (⟨false, r25⟩)
      else none
    else none
  else
    (loopV (L123_2_step a0 a1) ()).bind fun r30 =>
    some (⟨true, []⟩)
theorem ok123 (a0 : Forest) (a1 : Int) (r : Sl (Int)) (h : P123 a0 a1 = some r) : pc prog 123 [eForest a0, .int .i64 a1] = some ((eSl (D.int .i64)) r) := by
  unfold P123 at h
  refine pc_of (fn := c123) rfl rfl ?_
  delta c123
  try simp only [go_sem]
  refine WVal_inl (fn := c102) rfl rfl ?_
  delta c102
  try simp only [go_sem]
  refine Wp.rfuncC (k := 173) (fn := c173) (first := []) (cap := [.ptr 7 0 0, .ptr 6 0 0]) (by simp only [go_sem]) rfl rfl ?_
  delta c173
  try simp only [go_sem]
  refine Wp.peel ?_
  delta c173B0
  try simp only [go_sem]
  refine WBr_splitN (fun hc1 => ?_) (fun hc2 => ?_)
  · rw [if_pos (show (!(a1 == 0)) = true by (rw [hc1]; rfl))] at h
    try simp only [go_sem]
    refine WVal_yld (by simp only [go_sem]; rfl) rfl ?_
    delta c123B0
    try simp only [go_sem]
    delta c123B1
    try simp only [go_sem]
    obtain ⟨r3, hr4, h⟩ := bs h
    replace hr4 := dec_some hr4
    refine WVal_pc hr4 ?_
    try simp only [go_sem]
    obtain ⟨hm5, h⟩ := ite_some h
    refine WVal_app0 (new := [V.d (.int .i64 r3)]) (by simp only [go_sem, elsOf_sl, elsB_all, elsB_one, elsOf_list, mapVd]) (by simp) (by simp only [go_sem]) (by simpa using hm5) ?_
    try simp only [go_sem, hm5]
    obtain ⟨r6, hr7, h⟩ := bs h
    replace hr7 := dec_some hr7
    refine WVal_pc hr7 ?_
    try simp only [go_sem, hm5]
    obtain ⟨r15, hl16, h⟩ := bs h
    refine Wp.loopR locs (n := 12) (a := c173B0) rfl (L123_0_S a0) (L123_0_F a0) (L123_0_ok a0) hl16 ?_ (by (repeat (refine Clo.block ?_)); refine Clo.rf (n' := 0) ?_ (by decide) (by decide) ?_; ((repeat (first | refine SelfR.set ?_ ?_ | refine SelfR.args ?_ | exact SelfL.nil | refine SelfL.cons ?_ ?_ | exact Self.d | exact Self.ptr (by decide) | refine Self.clo ?_ ?_))); (repeat (first | refine Clo.block ?_ | refine Clo.seq locs rfl ?_)); (exact Clo.ret)) ?_
    · show Up 12 (L123_0_S a0 ([r3], r6.parent)) _
      delta L123_0_S
      exact Up.of (N := 31) (N' := 31) [] rfl rfl (by decide) (.set (.ptr' rfl) (.set (.ptr' rfl) (.set (.yld' rfl) RegsR.none))) (.set (BlkR.arr (e := (D.int .i64)) (l := ([r3])) (by rfl) (by exact Nat.le_refl _)) (.set (BlkR.loop (.set (.ptr' rfl) (.set (.ptr' rfl) RegsR.none)) rfl rfl) (.set BlkR.refl_d (.set BlkR.refl_d (.set (BlkR.els (Nat.le_refl _) (.cons (.sl'' rfl (by rfl)) .nil)) (.set BlkR.refl_d BlksR.at))))))
    · dsimp only [L123_0_F]
      try simp only [go_sem, hm5]
      refine WVal_inl (fn := c181) rfl rfl ?_
      delta c181
      try simp only [go_sem, hm5]
      obtain ⟨r25, hl26, h⟩ := bs h
      refine Wp.loopR locs (n := 33) (a := c181B0) rfl (L123_1_S a0 r15) (L123_1_F a0 r15) (L123_1_ok a0 r15) hl26 ?_ (by (repeat (refine Clo.block ?_)); refine Clo.inl locs (n' := 0) rfl rfl rfl ?_ ?_ (show 31 + 2 ≤ _ from by decide) (by decide) ?_; ((repeat (first | exact SelfR.no | refine SelfR.set ?_ ?_ | refine SelfR.args ?_ | exact SelfL.nil | refine SelfL.cons ?_ ?_ | exact Self.d | exact Self.ptr (by decide) | exact Self.sl (by decide) | refine Self.clo ?_ ?_)); (repeat (first | exact SelfR.no | exact SelfR.none | refine SelfR.set ?_ ?_ | refine SelfR.args ?_ | exact SelfL.nil | refine SelfL.cons ?_ ?_ | exact Self.d | exact Self.undef | exact Self.rp | exact Self.ptr (by decide) | exact Self.sl (by decide) | exact Self.mb (by decide) | exact Self.map (by decide) | exact Self.yld (by decide) | exact Self.it (by decide) | refine Self.clo ?_ ?_ | refine Self.ofCells ?_ | refine Self.agg ?_ | refine Self.tuple ?_ | refine Self.bif ?_ ?_))); (repeat (refine Clo.seq locs rfl ?_)); (exact Clo.ret)) ?_
      · show Up 33 (L123_1_S a0 r15 (r15.2, 0, (IntKind.wrap .i64 (((r15.2.length : Nat) : Int) - 1)))) _
        delta L123_1_S
        exact Up.of (N := 38) (N' := 38) [] rfl rfl (by decide) (.set (.d _) (.set (.d _) (.set (.sl'' rfl (by rfl)) RegsR.none))) (.set (BlkR.arr (e := (D.int .i64)) (l := r15.2) (by rfl) (by exact Nat.le_refl _)) (.set BlkR.refl_d (.set BlkR.refl_d (.set (BlkR.els (Nat.le_refl _) (.cons (.sl'' rfl (by rfl)) .nil)) (.set BlkR.refl_d BlksR.at)))))
      · dsimp only [L123_1_F]
        try simp only [go_sem, hm5]
        obtain ⟨hq27, h⟩ := ite_some h
        cases h
        refine Reads.ofv (v' := .sl 30 0 r15.2.length) (by rfl) (Rd.sl (e := (D.int .i64)) (l := r25) (sz := 1) (fz := 0) (m := r25.map fun z => V.d ((D.int .i64) z)) (by simp only [go_sem, List.map_append, List.map_cons, List.map_nil, hm5, hq27]) rfl (by exact hq27)) rfl
  · rw [if_neg (ffn hc2)] at h
    try simp only [go_sem]
    refine WVal_inl (fn := c181) rfl rfl ?_
    delta c181
    try simp only [go_sem]
    obtain ⟨r30, hl31, h⟩ := bs h
    refine Wp.loopR locs (n := 16) (a := c181B0) rfl (L123_2_S a0 a1) (L123_2_F a0 a1) (L123_2_ok a0 a1) hl31 ?_ (by (repeat (refine Clo.block ?_)); refine Clo.inl locs (n' := 0) rfl rfl rfl ?_ ?_ (show 14 + 2 ≤ _ from by decide) (by decide) ?_; ((repeat (first | exact SelfR.no | refine SelfR.set ?_ ?_ | refine SelfR.args ?_ | exact SelfL.nil | refine SelfL.cons ?_ ?_ | exact Self.d | exact Self.ptr (by decide) | refine Self.clo ?_ ?_)); (repeat (first | exact SelfR.no | exact SelfR.none | refine SelfR.set ?_ ?_ | refine SelfR.args ?_ | exact SelfL.nil | refine SelfL.cons ?_ ?_ | exact Self.d | exact Self.undef | exact Self.rp | exact Self.ptr (by decide) | exact Self.sl (by decide) | exact Self.mb (by decide) | exact Self.map (by decide) | exact Self.yld (by decide) | exact Self.it (by decide) | refine Self.clo ?_ ?_ | refine Self.ofCells ?_ | refine Self.agg ?_ | refine Self.tuple ?_ | refine Self.bif ?_ ?_))); (repeat (refine Clo.seq locs rfl ?_)); (exact Clo.ret)) ?_
    · show Up 16 (L123_2_S a0 a1 ()) _
      delta L123_2_S
      exact Up.of (N := 21) (N' := 21) [] rfl rfl (by decide) (.set (.d _) (.set (.d _) (.set (.d _) RegsR.none))) (.set BlkR.refl_d (.set BlkR.refl_d (.set BlkR.refl_d (.set BlkR.refl_d BlksR.at))))
    · dsimp only [L123_2_F]
      try simp only [go_sem]
      cases h
      rfl
noncomputable def P146 (a0 : Forest) (a1 : Int) : Option (Int) :=
  (dec eNode (pc prog 91 [eForest a0, .int .i64 a1])).bind fun r1 =>
  (dec eNode (pc prog 91 [eForest a0, .int .i64 r1.parent])).bind fun r3 =>
  (dec (D.int .i64) (pc prog 188 [.list r3.kids.n (r3.kids.l.map (D.int .i64)), .int .i64 a1])).bind fun r5 =>
  some (max r5 (0))
theorem ok146 (a0 : Forest) (a1 : Int) (r : Int) (h : P146 a0 a1 = some r) : pc prog 146 [eForest a0, .int .i64 a1] = some ((D.int .i64) r) := by
  unfold P146 at h
  refine pc_of (fn := c146) rfl rfl ?_
  delta c146
  try simp only [go_sem]
  obtain ⟨r1, hr2, h⟩ := bs h
  replace hr2 := dec_some hr2
  refine WVal_pc hr2 ?_
  try simp only [go_sem]
  obtain ⟨r3, hr4, h⟩ := bs h
  replace hr4 := dec_some hr4
  refine WVal_pc hr4 ?_
  try simp only [go_sem]
  obtain ⟨r5, hr6, h⟩ := bs h
  replace hr6 := dec_some hr6
  refine WVal_pc hr6 ?_
  try simp only [go_sem]
  cases h
  rfl
def L157_0_S (a0 : Forest) (r3 : Sl (Bool)) (x0 : Int) : St := ⟨(((((Regs.none.set 1 (.ptr 0 0 0)).set 4 (.d (.list r3.n (r3.l.map D.bool)))).set 14 (.d (.list a0.nodes.n (a0.nodes.l.map eNode)))).set 15 (.d (.int .i64 (a0.nodes.l.length : Int)))).set 16 (.d (.int .i64 x0))), ((Heap.at 14).set 0 (some (.els 1 [.d (eForest a0)] 0)))⟩
def L157_0_F (a0 : Forest) (r3 : Sl (Bool)) : ((Unit) ⊕ (Int)) → Ex × St := fun r => match r with
  | (.inl r) => (.exit 0, ⟨Regs.none, (Heap.at 14)⟩)
  | (.inr r) => (.ret, ⟨((Regs.none.set 2 (.d (.int .i64 (5)))).set 3 (.d (.int .i64 r))), (Heap.at 14)⟩)
noncomputable def L157_0_step (a0 : Forest) (r3 : Sl (Bool)) (x0 : Int) : Option ((Int) ⊕ ((Unit) ⊕ (Int))) :=
  if (decide (x0 < (a0.nodes.l.length : Int))) = true then
    (rd a0.nodes.l x0).bind fun y7 =>
    (dec D.bool (pc prog 192 [eNode y7])).bind fun r9 =>
    if r9 = true then
      (dec D.bool (pc prog 193 [eForest a0, .int .i64 (IntKind.wrap .i64 (x0 + 1))])).bind fun r13 =>
      if r13 = true then
        (rd r3.l (IntKind.wrap .i64 (x0 + 1))).bind fun y17 =>
        if (!y17) = true then
          some (.inr (.inr (IntKind.wrap .i64 (x0 + 1))))
        else
          some (.inl (IntKind.wrap .i64 (x0 + 1)))
      else
        some (.inr (.inr (IntKind.wrap .i64 (x0 + 1))))
    else
      some (.inr (.inr (IntKind.wrap .i64 (x0 + 1))))
  else
    some (.inr (.inl ()))
theorem L157_0_ok (a0 : Forest) (r3 : Sl (Bool)) (x0 : Int) (o : (Int) ⊕ ((Unit) ⊕ (Int))) (h : L157_0_step a0 r3 x0 = some o) : Wp prog c157B0 (L157_0_S a0 r3 x0) (LPost 0 (L157_0_S a0 r3) (L157_0_F a0 r3) o) := by
  unfold L157_0_step at h
  delta c157B0 L157_0_S
  try simp only [go_sem]
  refine WBr_split (fun hc5 => ?_) (fun hc6 => ?_)
  · rw [if_pos hc5] at h
    try simp only [go_sem]
    obtain ⟨y7, hy8, h⟩ := bs h
    try simp only [go_sem, rd_pos hy8, rd_ge hy8, rd_map eNode hy8]
    obtain ⟨r9, hr10, h⟩ := bs h
    replace hr10 := dec_some hr10
    refine WVal_pc hr10 ?_
    try simp only [go_sem, rd_pos hy8, rd_ge hy8, rd_map eNode hy8]
    refine WGuard_pure (v := .d (eForest a0)) (fun hb26 => by (simp only [go_sem, rd_pos hy8, rd_ge hy8, rd_map eNode hy8, hc5, hb26]; done)) ?_
    try simp only [go_sem, rd_pos hy8, rd_ge hy8, rd_map eNode hy8]
    refine WGuard_pure (v := .d (.int .i64 x0)) (fun hb25 => by (simp only [go_sem, rd_pos hy8, rd_ge hy8, rd_map eNode hy8, hc5, hb25]; done)) ?_
    try simp only [go_sem, rd_pos hy8, rd_ge hy8, rd_map eNode hy8]
    refine WGuard_pure (v := .d (.int .i64 (IntKind.wrap .i64 (x0 + 1)))) (fun hb24 => by (simp only [go_sem, rd_pos hy8, rd_ge hy8, rd_map eNode hy8, hc5, hb24]; done)) ?_
    try simp only [go_sem, rd_pos hy8, rd_ge hy8, rd_map eNode hy8]
    refine WGuard_split (fun hc11 => ?_) (fun hc12 => ?_)
    · rw [if_pos hc11] at h
      try simp only [go_sem, rd_pos hy8, rd_ge hy8, rd_map eNode hy8, hc11]
      obtain ⟨r13, hr14, h⟩ := bs h
      replace hr14 := dec_some hr14
      refine WVal_pc hr14 ?_
      try simp only [go_sem, rd_pos hy8, rd_ge hy8, rd_map eNode hy8]
      refine WGuard_pure (v := .d (.list r3.n (r3.l.map D.bool))) (fun hb23 => by (simp only [go_sem, rd_pos hy8, rd_ge hy8, rd_map eNode hy8, hc5, hc11, hb23]; done)) ?_
      try simp only [go_sem, rd_pos hy8, rd_ge hy8, rd_map eNode hy8]
      refine WGuard_pure (v := .d (.int .i64 x0)) (fun hb22 => by (simp only [go_sem, rd_pos hy8, rd_ge hy8, rd_map eNode hy8, hc5, hc11, hb22]; done)) ?_
      try simp only [go_sem, rd_pos hy8, rd_ge hy8, rd_map eNode hy8]
      refine WGuard_pure (v := .d (.int .i64 (IntKind.wrap .i64 (x0 + 1)))) (fun hb21 => by (simp only [go_sem, rd_pos hy8, rd_ge hy8, rd_map eNode hy8, hc5, hc11, hb21]; done)) ?_
      try simp only [go_sem, rd_pos hy8, rd_ge hy8, rd_map eNode hy8]
      refine WGuard_split (fun hc15 => ?_) (fun hc16 => ?_)
      · rw [if_pos hc15] at h
        try simp only [go_sem, rd_pos hy8, rd_ge hy8, rd_map eNode hy8, hc15]
        obtain ⟨y17, hy18, h⟩ := bs h
        try simp only [go_sem, rd_pos hy8, rd_ge hy8, rd_map eNode hy8, rd_pos hy18, rd_ge hy18, rd_map D.bool hy18]
        refine WBr_splitN (fun hc19 => ?_) (fun hc20 => ?_)
        · rw [if_pos (show (!y17) = true by (rw [hc19]; rfl))] at h
          try simp only [go_sem, rd_pos hy8, rd_ge hy8, rd_map eNode hy8, rd_pos hy18, rd_ge hy18, rd_map D.bool hy18]
          cases h
          exact ⟨rfl, by simp, Up.of (N := 14) (N' := 43) [] rfl rfl (by decide) (.set (.d _) (.set (.d _) RegsR.none)) BlksR.at⟩
        · rw [if_neg (ffn hc20)] at h
          try simp only [go_sem, rd_pos hy8, rd_ge hy8, rd_map eNode hy8, rd_pos hy18, rd_ge hy18, rd_map D.bool hy18]
          cases h
          exact ⟨rfl, Up.of (N := 14) (N' := 41) [] rfl rfl (by decide) (.set (.d _) (.set (.d _) (.set (.d _) (.set (.d _) (.set (.ptr' rfl) RegsR.none))))) (.set BlkR.refl_d BlksR.at)⟩
      · rw [if_neg (ff hc16)] at h
        try simp only [go_sem, rd_pos hy8, rd_ge hy8, rd_map eNode hy8, hc16]
        cases h
        exact ⟨rfl, by simp, Up.of (N := 14) (N' := 43) [] rfl rfl (by decide) (.set (.d _) (.set (.d _) RegsR.none)) BlksR.at⟩
    · rw [if_neg (ff hc12)] at h
      try simp only [go_sem, rd_pos hy8, rd_ge hy8, rd_map eNode hy8, hc12]
      cases h
      exact ⟨rfl, by simp, Up.of (N := 14) (N' := 43) [] rfl rfl (by decide) (.set (.d _) (.set (.d _) RegsR.none)) BlksR.at⟩
  · rw [if_neg (ff hc6)] at h
    try simp only [go_sem]
    cases h
    exact ⟨rfl, by simp, Up.of (N := 14) (N' := 15) [] rfl rfl (by decide) RegsR.none BlksR.at⟩
noncomputable def P157 (a0 : Forest) : Option (Int × Int) :=
  if (decide (4096 < (a0.nodes.l.length : Int))) = true then
    some (5, 0)
  else
    (dec (eSl D.bool) (pc prog 191 [eForest a0])).bind fun r3 =>
    (loopV (L157_0_step a0 r3) 0).bind fun r27 =>
    match r27 with
    | (.inl q29) =>
      some (0, 0)
    | (.inr q30) =>
      some (5, q30)
theorem ok157 (a0 : Forest) (r : Int × Int) (h : P157 a0 = some r) : pc prog 157 [eForest a0] = some ((eT2 (D.int .i64) (D.int .i64)) r) := by
  unfold P157 at h
  refine pc_of (fn := c157) rfl rfl ?_
  delta c157
  try simp only [go_sem]
  refine WBr_split (fun hc1 => ?_) (fun hc2 => ?_)
  · rw [if_pos hc1] at h
    try simp only [go_sem]
    cases h
    rfl
  · rw [if_neg (ff hc2)] at h
    try simp only [go_sem]
    obtain ⟨r3, hr4, h⟩ := bs h
    replace hr4 := dec_some hr4
    refine WVal_pc hr4 ?_
    try simp only [go_sem]
    obtain ⟨r27, hl28, h⟩ := bs h
    refine Wp.loopR locs (n := 0) (a := c157B0) rfl (L157_0_S a0 r3) (L157_0_F a0 r3) (L157_0_ok a0 r3) hl28 ?_ (by (repeat (first | refine Clo.block ?_ | refine Clo.seq locs rfl ?_)); (exact Clo.ret)) ?_
    · show Up 0 (L157_0_S a0 r3 0) _
      delta L157_0_S
      exact Up.of (N := 14) (N' := 14) [] rfl rfl (by decide) (.set (.d _) (.set (.d _) (.set (.d _) (.set (.d _) (.set (.ptr' rfl) RegsR.none))))) (.set BlkR.refl_d BlksR.at)
    · rcases r27 with (q29 | q30)
      · dsimp only at h
        dsimp only [L157_0_F]
        try simp only [go_sem]
        cases h
        rfl
      · dsimp only at h
        dsimp only [L157_0_F]
        try simp only [go_sem]
        cases h
        rfl
noncomputable def P180 (a0 : Int) (a1 : Int) : Option (Int) :=
  (dec D.bool (pc prog 213 [.int .i64 a0])).bind fun r1 =>
  (dec D.bool (pc prog 213 [.int .i64 a1])).bind fun r3 =>
  if r1 = true then
    if r3 = true then
      some (0)
    else
      some (-1)
  else
    if r3 = true then
      some (1)
    else
      if (decide (a0 < a1)) = true then
        some (-1)
      else
        if (decide (a1 < a0)) = true then
          some (1)
        else
          some (0)
theorem ok180 (a0 : Int) (a1 : Int) (r : Int) (h : P180 a0 a1 = some r) : pc prog 180 [.int .i64 a0, .int .i64 a1] = some ((D.int .i64) r) := by
  unfold P180 at h
  refine pc_of (fn := c180) rfl rfl ?_
  delta c180
  try simp only [go_sem]
  obtain ⟨r1, hr2, h⟩ := bs h
  replace hr2 := dec_some hr2
  refine WVal_pc hr2 ?_
  try simp only [go_sem]
  obtain ⟨r3, hr4, h⟩ := bs h
  replace hr4 := dec_some hr4
  refine WVal_pc hr4 ?_
  try simp only [go_sem]
  refine WBr_split (fun hc5 => ?_) (fun hc6 => ?_)
  · rw [if_pos hc5] at h
    try simp only [go_sem]
    refine WBr_split (fun hc7 => ?_) (fun hc8 => ?_)
    · rw [if_pos hc7] at h
      try simp only [go_sem]
      cases h
      rfl
    · rw [if_neg (ff hc8)] at h
      try simp only [go_sem]
      cases h
      rfl
  · rw [if_neg (ff hc6)] at h
    try simp only [go_sem]
    refine WBr_split (fun hc9 => ?_) (fun hc10 => ?_)
    · rw [if_pos hc9] at h
      try simp only [go_sem]
      cases h
      rfl
    · rw [if_neg (ff hc10)] at h
      try simp only [go_sem]
      refine WBr_split (fun hc11 => ?_) (fun hc12 => ?_)
      · rw [if_pos hc11] at h
        try simp only [go_sem]
        cases h
        rfl
      · rw [if_neg (ff hc12)] at h
        try simp only [go_sem]
        refine WBr_split (fun hc13 => ?_) (fun hc14 => ?_)
        · rw [if_pos hc13] at h
          try simp only [go_sem]
          cases h
          rfl
        · rw [if_neg (ff hc14)] at h
          try simp only [go_sem]
          cases h
          rfl
def L188_0_S (a0 : Sl (Int)) (a1 : Int) (x0 : Int) : St := ⟨((((Regs.none.set 0 (.d (.list a0.n (a0.l.map (D.int .i64))))).set 1 (.d (.int .i64 a1))).set 7 (.d (.int .i64 (a0.l.length : Int)))).set 8 (.d (.int .i64 x0))), (Heap.at 4)⟩
def L188_0_F (a0 : Sl (Int)) (a1 : Int) : ((Unit) ⊕ (Int)) → Ex × St := fun r => match r with
  | (.inl r) => (.exit 0, ⟨Regs.none, (Heap.at 4)⟩)
  | (.inr r) => (.ret, ⟨(Regs.none.set 4 (.d (.int .i64 r))), (Heap.at 4)⟩)
noncomputable def L188_0_step (a0 : Sl (Int)) (a1 : Int) (x0 : Int) : Option ((Int) ⊕ ((Unit) ⊕ (Int))) :=
  if (decide (x0 < (a0.l.length : Int))) = true then
    (rd a0.l x0).bind fun y3 =>
    if (a1 == y3) = true then
      some (.inr (.inr x0))
    else
      some (.inl (IntKind.wrap .i64 (x0 + 1)))
  else
    some (.inr (.inl ()))
theorem L188_0_ok (a0 : Sl (Int)) (a1 : Int) (x0 : Int) (o : (Int) ⊕ ((Unit) ⊕ (Int))) (h : L188_0_step a0 a1 x0 = some o) : Wp prog c188B0 (L188_0_S a0 a1 x0) (LPost 0 (L188_0_S a0 a1) (L188_0_F a0 a1) o) := by
  unfold L188_0_step at h
  delta c188B0 L188_0_S
  try simp only [go_sem]
  refine WBr_split (fun hc1 => ?_) (fun hc2 => ?_)
  · rw [if_pos hc1] at h
    try simp only [go_sem]
    obtain ⟨y3, hy4, h⟩ := bs h
    try simp only [go_sem, rd_pos hy4, rd_ge hy4, rd_map (D.int .i64) hy4]
    refine WBr_split (fun hc5 => ?_) (fun hc6 => ?_)
    · rw [if_pos hc5] at h
      try simp only [go_sem, rd_pos hy4, rd_ge hy4, rd_map (D.int .i64) hy4]
      cases h
      exact ⟨rfl, by simp, Up.of (N := 4) (N' := 15) [] rfl rfl (by decide) (.set (.d _) RegsR.none) BlksR.at⟩
    · rw [if_neg (ff hc6)] at h
      try simp only [go_sem, rd_pos hy4, rd_ge hy4, rd_map (D.int .i64) hy4]
      cases h
      exact ⟨rfl, Up.of (N := 4) (N' := 15) [] rfl rfl (by decide) (.set (.d _) (.set (.d _) (.set (.d _) (.set (.d _) RegsR.none)))) BlksR.at⟩
  · rw [if_neg (ff hc2)] at h
    try simp only [go_sem]
    cases h
    exact ⟨rfl, by simp, Up.of (N := 4) (N' := 5) [] rfl rfl (by decide) RegsR.none BlksR.at⟩
noncomputable def P188 (a0 : Sl (Int)) (a1 : Int) : Option (Int) :=
  (loopV (L188_0_step a0 a1) 0).bind fun r7 =>
  match r7 with
  | (.inl q9) =>
    some (-1)
  | (.inr q10) =>
    some q10
theorem ok188 (a0 : Sl (Int)) (a1 : Int) (r : Int) (h : P188 a0 a1 = some r) : pc prog 188 [.list a0.n (a0.l.map (D.int .i64)), .int .i64 a1] = some ((D.int .i64) r) := by
  unfold P188 at h
  refine pc_of (fn := c188) rfl rfl ?_
  delta c188
  try simp only [go_sem]
  obtain ⟨r7, hl8, h⟩ := bs h
  refine Wp.loopR locs (n := 0) (a := c188B0) rfl (L188_0_S a0 a1) (L188_0_F a0 a1) (L188_0_ok a0 a1) hl8 ?_ (by (repeat (first | refine Clo.block ?_ | refine Clo.seq locs rfl ?_)); (exact Clo.ret)) ?_
  · show Up 0 (L188_0_S a0 a1 0) _
    delta L188_0_S
    exact Up.of (N := 4) (N' := 4) [] rfl rfl (by decide) (.set (.d _) (.set (.d _) (.set (.d _) (.set (.d _) RegsR.none)))) BlksR.at
  · rcases r7 with (q9 | q10)
    · dsimp only at h
      dsimp only [L188_0_F]
      try simp only [go_sem]
      cases h
      rfl
    · dsimp only at h
      dsimp only [L188_0_F]
      try simp only [go_sem]
      cases h
      rfl
def L191_1_S (a0 : Forest) (x0 : List (Int) × Int) (x1 : List (Int) × List (Int) × Int) : St := ⟨((((((Regs.none.set 1 (.ptr 0 0 0)).set 3 (.sl 6 0 (((IntKind.wrap .i64 ((a0.nodes.l.length : Int) + 1))).toNat))).set 5 (mb 18 (x1.2.1.map fun z => V.d ((D.int .i64) z)))).set 6 (.d (.int .i64 x1.2.2))).set 19 (.d (.int .i64 (a0.nodes.l.length : Int)))).set 20 (.d (.int .i64 x0.2))), ((((Heap.at 19).set 0 (some (.els 1 [.d (eForest a0)] 0))).set 6 (some (.els 1 (x1.1.map fun z => V.d ((D.int .i64) z)) (0)))).set 18 (mbB 1 x1.2.1.length (x1.2.1.map fun z => V.d ((D.int .i64) z))))⟩
def L191_1_F (a0 : Forest) (x0 : List (Int) × Int) : ((List (Int) × Int × List (Int))) → Ex × St := fun r => (.exit 2, ⟨((((((Regs.none.set 1 (.ptr 0 0 0)).set 3 (.sl 6 0 (((IntKind.wrap .i64 ((a0.nodes.l.length : Int) + 1))).toNat))).set 5 (mb 18 (r.1.map fun z => V.d ((D.int .i64) z)))).set 6 (.d (.int .i64 r.2.1))).set 19 (.d (.int .i64 (a0.nodes.l.length : Int)))).set 20 (.d (.int .i64 x0.2))), ((((Heap.at 19).set 0 (some (.els 1 [.d (eForest a0)] 0))).set 6 (some (.els 1 (r.2.2.map fun z => V.d ((D.int .i64) z)) (0)))).set 18 (mbB 1 r.1.length (r.1.map fun z => V.d ((D.int .i64) z))))⟩)
noncomputable def L191_1_step (a0 : Forest) (x0 : List (Int) × Int) (x1 : List (Int) × List (Int) × Int) : Option ((List (Int) × List (Int) × Int) ⊕ ((List (Int) × Int × List (Int)))) :=
  if (bif (decide (1 ≤ x1.2.2)) then (decide (x1.2.2 ≤ (a0.nodes.l.length : Int))) else false) = true then
    (rdA x1.1 (((IntKind.wrap .i64 ((a0.nodes.l.length : Int) + 1))).toNat) x1.2.2).bind fun y6 =>
    if (y6 == 0) = true then
      if (x1.2.1.length + 1) * 8 ≤ AI.roomBytes then
        (rd a0.nodes.l (IntKind.wrap .i64 (x1.2.2 - 1))).bind fun y11 =>
        (dec (D.int .i64) (pc prog 214 [eNode y11])).bind fun r13 =>
        some (.inl ((x1.1.set (x1.2.2).toNat (1)), (x1.2.1 ++ [x1.2.2]), r13))
      else none
    else
      some (.inr (x1.2.1, x1.2.2, x1.1))
  else
    some (.inr (x1.2.1, x1.2.2, x1.1))
theorem L191_1_ok (a0 : Forest) (x0 : List (Int) × Int) (x1 : List (Int) × List (Int) × Int) (o : (List (Int) × List (Int) × Int) ⊕ ((List (Int) × Int × List (Int)))) (h : L191_1_step a0 x0 x1 = some o) : Wp prog c191B0 (L191_1_S a0 x0 x1) (LPost 0 (L191_1_S a0 x0) (L191_1_F a0 x0) o) := by
  unfold L191_1_step at h
  delta c191B0 L191_1_S
  try simp only [go_sem]
  refine WGuard_pure (v := .d (.int .i64 x1.2.2)) (fun hb19 => by (simp only [go_sem, hb19]; done)) ?_
  try simp only [go_sem]
  refine WGuard_pure (v := .ptr 0 0 0) (fun hb18 => by (simp only [go_sem, hb18]; done)) ?_
  try simp only [go_sem]
  refine WGuard_pure (v := .d (.list a0.nodes.n (a0.nodes.l.map eNode))) (fun hb17 => by (simp only [go_sem, hb17]; done)) ?_
  try simp only [go_sem]
  refine WGuard_pure (v := .d (.int .i64 (a0.nodes.l.length : Int))) (fun hb16 => by (simp only [go_sem, hb16]; done)) ?_
  try simp only [go_sem]
  refine WGuard_pure (v := .d (.bool (decide (x1.2.2 ≤ (a0.nodes.l.length : Int))))) (fun hb15 => by (simp only [go_sem, hb15]; done)) ?_
  try simp only [go_sem]
  refine WGuard_split (fun hc4 => ?_) (fun hc5 => ?_)
  · rw [if_pos hc4] at h
    try simp only [go_sem, hc4]
    obtain ⟨y6, hy7, h⟩ := bs h
    try simp only [go_sem, rdA_pos hy7, rdA_ge hy7, rdA_lt hy7, rdA_len hy7, rdA_map (D.int .i64) hy7]
    refine WBr_split (fun hc8 => ?_) (fun hc9 => ?_)
    · rw [if_pos hc8] at h
      try simp only [go_sem, rdA_pos hy7, rdA_ge hy7, rdA_lt hy7, rdA_len hy7, rdA_map (D.int .i64) hy7]
      obtain ⟨hm10, h⟩ := ite_some h
      refine WVal_appM (l := x1.2.1.map fun z => V.d ((D.int .i64) z)) (new := [V.d (.int .i64 x1.2.2)]) (sz := 1) (fz := x1.2.1.length) (by simp only [go_sem, List.map_append, List.map_cons, List.map_nil, rdA_pos hy7, rdA_ge hy7, rdA_lt hy7, rdA_len hy7, rdA_map (D.int .i64) hy7, set_map (x := 1) (D.int .i64) (rdA_len hy7), set_len (x := 1) (rdA_len hy7)]) (by intro h; simpa using h) (by simp only [go_sem, elsOf_sl, elsB_all, elsB_one, elsOf_list, mapVd]) (by simp) (by simp only [go_sem]) (by simpa using hm10) ?_
      try simp only [go_sem, rdA_pos hy7, rdA_ge hy7, rdA_lt hy7, rdA_len hy7, rdA_map (D.int .i64) hy7, set_map (x := 1) (D.int .i64) (rdA_len hy7), set_len (x := 1) (rdA_len hy7), hm10]
      obtain ⟨y11, hy12, h⟩ := bs h
      try simp only [go_sem, rdA_pos hy7, rdA_ge hy7, rdA_lt hy7, rdA_len hy7, rdA_map (D.int .i64) hy7, set_map (x := 1) (D.int .i64) (rdA_len hy7), set_len (x := 1) (rdA_len hy7), hm10, rd_pos hy12, rd_ge hy12, rd_map eNode hy12]
      obtain ⟨r13, hr14, h⟩ := bs h
      replace hr14 := dec_some hr14
      refine WVal_pc hr14 ?_
      try simp only [go_sem, rdA_pos hy7, rdA_ge hy7, rdA_lt hy7, rdA_len hy7, rdA_map (D.int .i64) hy7, set_map (x := 1) (D.int .i64) (rdA_len hy7), set_len (x := 1) (rdA_len hy7), hm10, rd_pos hy12, rd_ge hy12, rd_map eNode hy12]
      cases h
      refine ⟨rfl, Up.of (N := 19) (N' := 52) [(18, 42)] rfl rfl (by decide) ?_ ?_⟩
      · refine RegsR.set ?_ (RegsR.set ?_ (RegsR.set ?_ (RegsR.set ?_ (RegsR.set ?_ (RegsR.set ?_ RegsR.none)))))
        all_goals (try simp only [go_sem, List.map_append, List.map_cons, List.map_nil, rdA_pos hy7, rdA_ge hy7, rdA_lt hy7, rdA_len hy7, rdA_map (D.int .i64) hy7, set_map (x := 1) (D.int .i64) (rdA_len hy7), set_len (x := 1) (rdA_len hy7), hm10, rd_pos hy12, rd_ge hy12, rd_map eNode hy12])
        all_goals (first | exact VR.d _ | exact VR.mb_sl (by simp) rfl (by simp) | exact VR.ptr' rfl | exact VR.sl'' rfl (by simp))
      · refine BlksR.set (show BlkR _ _ (Heap.get _ 42) from ?_) (BlksR.set (show BlkR _ _ (Heap.get _ 6) from ?_) (BlksR.set (show BlkR _ _ (Heap.get _ 0) from ?_) (BlksR.at)))
        all_goals (try simp only [go_sem, List.map_append, List.map_cons, List.map_nil, rdA_pos hy7, rdA_ge hy7, rdA_lt hy7, rdA_len hy7, rdA_map (D.int .i64) hy7, set_map (x := 1) (D.int .i64) (rdA_len hy7), set_len (x := 1) (rdA_len hy7), hm10, rd_pos hy12, rd_ge hy12, rd_map eNode hy12])
        all_goals (((repeat' first | exact BlkR.refl_d | refine BlkR.els (by simp) ?_ | refine BlkR.mb_els (by simp) ?_ | exact VR.d _ | exact VRL.nil | exact VRL.refl_d _ _ | refine VRL.append ?_ ?_ | refine VRL.cons ?_ ?_); done))
    · rw [if_neg (ff hc9)] at h
      try simp only [go_sem, rdA_pos hy7, rdA_ge hy7, rdA_lt hy7, rdA_len hy7, rdA_map (D.int .i64) hy7]
      cases h
      refine ⟨rfl, by simp, Up.of (N := 19) (N' := 35) [] rfl rfl (by decide) ?_ ?_⟩
      · refine RegsR.set ?_ (RegsR.set ?_ (RegsR.set ?_ (RegsR.set ?_ (RegsR.set ?_ (RegsR.set ?_ RegsR.none)))))
        all_goals (try simp only [go_sem, List.map_append, List.map_cons, List.map_nil, rdA_pos hy7, rdA_ge hy7, rdA_lt hy7, rdA_len hy7, rdA_map (D.int .i64) hy7])
        all_goals (first | exact VR.d _ | exact VR.mb rfl | exact VR.ptr' rfl | exact VR.sl'' rfl (by simp))
      · refine BlksR.set (show BlkR _ _ (Heap.get _ 18) from ?_) (BlksR.set (show BlkR _ _ (Heap.get _ 6) from ?_) (BlksR.set (show BlkR _ _ (Heap.get _ 0) from ?_) (BlksR.at)))
        all_goals (try simp only [go_sem, List.map_append, List.map_cons, List.map_nil, rdA_pos hy7, rdA_ge hy7, rdA_lt hy7, rdA_len hy7, rdA_map (D.int .i64) hy7])
        all_goals (((repeat' first | exact BlkR.refl_d | refine BlkR.els (by simp) ?_ | refine BlkR.mb (by simp) ?_ | exact VRL.refl_d _ _); done))
  · rw [if_neg (ff hc5)] at h
    try simp only [go_sem, hc5]
    cases h
    refine ⟨rfl, by simp, Up.of (N := 19) (N' := 35) [] rfl rfl (by decide) ?_ ?_⟩
    · refine RegsR.set ?_ (RegsR.set ?_ (RegsR.set ?_ (RegsR.set ?_ (RegsR.set ?_ (RegsR.set ?_ RegsR.none)))))
      all_goals (try simp only [go_sem, List.map_append, List.map_cons, List.map_nil])
      all_goals (first | exact VR.d _ | exact VR.mb rfl | exact VR.ptr' rfl | exact VR.sl'' rfl (by simp))
    · refine BlksR.set (show BlkR _ _ (Heap.get _ 18) from ?_) (BlksR.set (show BlkR _ _ (Heap.get _ 6) from ?_) (BlksR.set (show BlkR _ _ (Heap.get _ 0) from ?_) (BlksR.at)))
      all_goals (try simp only [go_sem, List.map_append, List.map_cons, List.map_nil])
      all_goals (((repeat' first | exact BlkR.refl_d | refine BlkR.els (by simp) ?_ | refine BlkR.mb (by simp) ?_ | exact VRL.refl_d _ _); done))
def L191_2_S (a0 : Forest) (x0 : List (Int) × Int) (r20 : List (Int) × Int × List (Int)) (r28 : Int) (x2 : List (Int) × Int) : St := ⟨((((((((Regs.none.set 1 (.ptr 0 0 0)).set 3 (.sl 6 0 (((IntKind.wrap .i64 ((a0.nodes.l.length : Int) + 1))).toNat))).set 7 (.d (.int .i64 r28))).set 19 (.d (.int .i64 (a0.nodes.l.length : Int)))).set 20 (.d (.int .i64 x0.2))).set 71 (mb 18 (r20.1.map fun z => V.d ((D.int .i64) z)))).set 72 (.d (.int .i64 (r20.1.length : Int)))).set 73 (.d (.int .i64 x2.2))), ((((Heap.at 39).set 0 (some (.els 1 [.d (eForest a0)] 0))).set 6 (some (.els 1 (x2.1.map fun z => V.d ((D.int .i64) z)) (0)))).set 18 (mbB 1 r20.1.length (r20.1.map fun z => V.d ((D.int .i64) z))))⟩
def L191_2_F (a0 : Forest) (x0 : List (Int) × Int) (r20 : List (Int) × Int × List (Int)) (r28 : Int) : ((List (Int))) → Ex × St := fun r => (.exit 4, ⟨((((Regs.none.set 1 (.ptr 0 0 0)).set 3 (.sl 6 0 (((IntKind.wrap .i64 ((a0.nodes.l.length : Int) + 1))).toNat))).set 19 (.d (.int .i64 (a0.nodes.l.length : Int)))).set 20 (.d (.int .i64 x0.2))), (((Heap.at 39).set 0 (some (.els 1 [.d (eForest a0)] 0))).set 6 (some (.els 1 (r.map fun z => V.d ((D.int .i64) z)) (0))))⟩)
noncomputable def L191_2_step (a0 : Forest) (x0 : List (Int) × Int) (r20 : List (Int) × Int × List (Int)) (r28 : Int) (x2 : List (Int) × Int) : Option ((List (Int) × Int) ⊕ ((List (Int)))) :=
  if (decide (x2.2 < (r20.1.length : Int))) = true then
    (rdA r20.1 r20.1.length x2.2).bind fun y32 =>
    (rdA x2.1 (((IntKind.wrap .i64 ((a0.nodes.l.length : Int) + 1))).toNat) y32).bind fun y34 =>
    some (.inl ((x2.1.set (y32).toNat r28), (IntKind.wrap .i64 (x2.2 + 1))))
  else
    some (.inr x2.1)
theorem L191_2_ok (a0 : Forest) (x0 : List (Int) × Int) (r20 : List (Int) × Int × List (Int)) (r28 : Int) (x2 : List (Int) × Int) (o : (List (Int) × Int) ⊕ ((List (Int)))) (h : L191_2_step a0 x0 r20 r28 x2 = some o) : Wp prog c191B1 (L191_2_S a0 x0 r20 r28 x2) (LPost 0 (L191_2_S a0 x0 r20 r28) (L191_2_F a0 x0 r20 r28) o) := by
  unfold L191_2_step at h
  delta c191B1 L191_2_S
  try simp only [go_sem]
  refine WBr_split (fun hc30 => ?_) (fun hc31 => ?_)
  · rw [if_pos hc30] at h
    try simp only [go_sem]
    obtain ⟨y32, hy33, h⟩ := bs h
    have hne_hy33 := rdA_ne hy33
    try simp only [go_sem, rdA_pos hy33, rdA_ge hy33, rdA_lt hy33, rdA_len hy33, rdA_map (D.int .i64) hy33, mb_ne (rdA_ne hy33), mbB_ne (rdA_ne hy33)]
    obtain ⟨y34, hy35, h⟩ := bs h
    try simp only [go_sem, rdA_pos hy33, rdA_ge hy33, rdA_lt hy33, rdA_len hy33, rdA_map (D.int .i64) hy33, mb_ne (rdA_ne hy33), mbB_ne (rdA_ne hy33), rdA_pos hy35, rdA_ge hy35, rdA_lt hy35, rdA_len hy35, rdA_map (D.int .i64) hy35]
    cases h
    exact ⟨rfl, Up.of (N := 39) (N' := 50) [] rfl rfl (by decide) (.set (.d _) (.set (.d _) (.set (by exact VR.sl'' rfl (by rfl)) (.set (.d _) (.set (.d _) (.set (.d _) (.set (.sl'' rfl (by rfl)) (.set (.ptr' rfl) RegsR.none)))))))) (.set (by exact BlkR.arr (e := (D.int .i64)) (l := r20.1) (by rfl) (Nat.le_refl _)) (.set (BlkR.arr (e := (D.int .i64)) (l := (x2.1.set (y32).toNat r28)) (by rfl) (by exact Nat.le_refl _)) (.set BlkR.refl_d BlksR.at)))⟩
  · rw [if_neg (ff hc31)] at h
    try simp only [go_sem]
    cases h
    exact ⟨rfl, by simp, Up.of (N := 39) (N' := 40) [] rfl rfl (by decide) (.set (.d _) (.set (.d _) (.set (.sl'' rfl (by rfl)) (.set (.ptr' rfl) RegsR.none)))) (.set (BlkR.arr (e := (D.int .i64)) (l := x2.1) (by rfl) (by exact Nat.le_refl _)) (.set BlkR.refl_d BlksR.at))⟩
def L191_3_S (a0 : Forest) (x0 : List (Int) × Int) (r20 : List (Int) × Int × List (Int)) (x3 : List (Int) × Int) : St := ⟨((((((((Regs.none.set 1 (.ptr 0 0 0)).set 3 (.sl 6 0 (((IntKind.wrap .i64 ((a0.nodes.l.length : Int) + 1))).toNat))).set 7 (.d (.int .i64 (2)))).set 19 (.d (.int .i64 (a0.nodes.l.length : Int)))).set 20 (.d (.int .i64 x0.2))).set 71 (mb 18 (r20.1.map fun z => V.d ((D.int .i64) z)))).set 72 (.d (.int .i64 (r20.1.length : Int)))).set 73 (.d (.int .i64 x3.2))), ((((Heap.at 39).set 0 (some (.els 1 [.d (eForest a0)] 0))).set 6 (some (.els 1 (x3.1.map fun z => V.d ((D.int .i64) z)) (0)))).set 18 (mbB 1 r20.1.length (r20.1.map fun z => V.d ((D.int .i64) z))))⟩
def L191_3_F (a0 : Forest) (x0 : List (Int) × Int) (r20 : List (Int) × Int × List (Int)) : ((List (Int))) → Ex × St := fun r => (.exit 4, ⟨((((Regs.none.set 1 (.ptr 0 0 0)).set 3 (.sl 6 0 (((IntKind.wrap .i64 ((a0.nodes.l.length : Int) + 1))).toNat))).set 19 (.d (.int .i64 (a0.nodes.l.length : Int)))).set 20 (.d (.int .i64 x0.2))), (((Heap.at 39).set 0 (some (.els 1 [.d (eForest a0)] 0))).set 6 (some (.els 1 (r.map fun z => V.d ((D.int .i64) z)) (0))))⟩)
noncomputable def L191_3_step (a0 : Forest) (x0 : List (Int) × Int) (r20 : List (Int) × Int × List (Int)) (x3 : List (Int) × Int) : Option ((List (Int) × Int) ⊕ ((List (Int)))) :=
  if (decide (x3.2 < (r20.1.length : Int))) = true then
    (rdA r20.1 r20.1.length x3.2).bind fun y40 =>
    (rdA x3.1 (((IntKind.wrap .i64 ((a0.nodes.l.length : Int) + 1))).toNat) y40).bind fun y42 =>
    some (.inl ((x3.1.set (y40).toNat (2)), (IntKind.wrap .i64 (x3.2 + 1))))
  else
    some (.inr x3.1)
theorem L191_3_ok (a0 : Forest) (x0 : List (Int) × Int) (r20 : List (Int) × Int × List (Int)) (x3 : List (Int) × Int) (o : (List (Int) × Int) ⊕ ((List (Int)))) (h : L191_3_step a0 x0 r20 x3 = some o) : Wp prog c191B1 (L191_3_S a0 x0 r20 x3) (LPost 0 (L191_3_S a0 x0 r20) (L191_3_F a0 x0 r20) o) := by
  unfold L191_3_step at h
  delta c191B1 L191_3_S
  try simp only [go_sem]
  refine WBr_split (fun hc38 => ?_) (fun hc39 => ?_)
  · rw [if_pos hc38] at h
    try simp only [go_sem]
    obtain ⟨y40, hy41, h⟩ := bs h
    have hne_hy41 := rdA_ne hy41
    try simp only [go_sem, rdA_pos hy41, rdA_ge hy41, rdA_lt hy41, rdA_len hy41, rdA_map (D.int .i64) hy41, mb_ne (rdA_ne hy41), mbB_ne (rdA_ne hy41)]
    obtain ⟨y42, hy43, h⟩ := bs h
    try simp only [go_sem, rdA_pos hy41, rdA_ge hy41, rdA_lt hy41, rdA_len hy41, rdA_map (D.int .i64) hy41, mb_ne (rdA_ne hy41), mbB_ne (rdA_ne hy41), rdA_pos hy43, rdA_ge hy43, rdA_lt hy43, rdA_len hy43, rdA_map (D.int .i64) hy43]
    cases h
    exact ⟨rfl, Up.of (N := 39) (N' := 50) [] rfl rfl (by decide) (.set (.d _) (.set (.d _) (.set (by exact VR.sl'' rfl (by rfl)) (.set (.d _) (.set (.d _) (.set (.d _) (.set (.sl'' rfl (by rfl)) (.set (.ptr' rfl) RegsR.none)))))))) (.set (by exact BlkR.arr (e := (D.int .i64)) (l := r20.1) (by rfl) (Nat.le_refl _)) (.set (BlkR.arr (e := (D.int .i64)) (l := (x3.1.set (y40).toNat (2))) (by rfl) (by exact Nat.le_refl _)) (.set BlkR.refl_d BlksR.at)))⟩
  · rw [if_neg (ff hc39)] at h
    try simp only [go_sem]
    cases h
    exact ⟨rfl, by simp, Up.of (N := 39) (N' := 40) [] rfl rfl (by decide) (.set (.d _) (.set (.d _) (.set (.sl'' rfl (by rfl)) (.set (.ptr' rfl) RegsR.none)))) (.set (BlkR.arr (e := (D.int .i64)) (l := x3.1) (by rfl) (by exact Nat.le_refl _)) (.set BlkR.refl_d BlksR.at))⟩
def L191_0_S (a0 : Forest) (x0 : List (Int) × Int) : St := ⟨((((Regs.none.set 1 (.ptr 0 0 0)).set 3 (.sl 6 0 (((IntKind.wrap .i64 ((a0.nodes.l.length : Int) + 1))).toNat))).set 19 (.d (.int .i64 (a0.nodes.l.length : Int)))).set 20 (.d (.int .i64 x0.2))), (((Heap.at 12).set 0 (some (.els 1 [.d (eForest a0)] 0))).set 6 (some (.els 1 (x0.1.map fun z => V.d ((D.int .i64) z)) (0))))⟩
def L191_0_F (a0 : Forest) : ((List (Int))) → Ex × St := fun r => (.exit 0, ⟨(Regs.none.set 3 (.sl 6 0 (((IntKind.wrap .i64 ((a0.nodes.l.length : Int) + 1))).toNat))), ((Heap.at 12).set 6 (some (.els 1 (r.map fun z => V.d ((D.int .i64) z)) (0))))⟩)
noncomputable def L191_0_step (a0 : Forest) (x0 : List (Int) × Int) : Option ((List (Int) × Int) ⊕ ((List (Int)))) :=
  if (decide (x0.2 < (a0.nodes.l.length : Int))) = true then
    (loopV (L191_1_step a0 x0) (x0.1, [], (IntKind.wrap .i64 (x0.2 + 1)))).bind fun r20 =>
    if (bif (decide (1 ≤ r20.2.1)) then (decide (r20.2.1 ≤ (a0.nodes.l.length : Int))) else false) = true then
      (rdA r20.2.2 (((IntKind.wrap .i64 ((a0.nodes.l.length : Int) + 1))).toNat) r20.2.1).bind fun y24 =>
      (if (!(y24 == 2)) = true then
        some 3
      else
        some 2 : Option ((Int))).bind fun r28 =>
      (loopV (L191_2_step a0 x0 r20 r28) (r20.2.2, 0)).bind fun r36 =>
      some (.inl (r36, (IntKind.wrap .i64 (x0.2 + 1))))
    else
      (loopV (L191_3_step a0 x0 r20) (r20.2.2, 0)).bind fun r44 =>
      some (.inl (r44, (IntKind.wrap .i64 (x0.2 + 1))))
  else
    some (.inr x0.1)
theorem L191_0_ok (a0 : Forest) (x0 : List (Int) × Int) (o : (List (Int) × Int) ⊕ ((List (Int)))) (h : L191_0_step a0 x0 = some o) : Wp prog c191B2 (L191_0_S a0 x0) (LPost 0 (L191_0_S a0) (L191_0_F a0) o) := by
  unfold L191_0_step at h
  delta c191B2 L191_0_S
  try simp only [go_sem]
  refine WBr_split (fun hc2 => ?_) (fun hc3 => ?_)
  · rw [if_pos hc2] at h
    try simp only [go_sem]
    obtain ⟨r20, hl21, h⟩ := bs h
    refine Wp.loopR locs (n := 0) (a := c191B0) rfl (L191_1_S a0 x0) (L191_1_F a0 x0) (L191_1_ok a0 x0) hl21 ?_ (by (repeat (first | refine Clo.block ?_ | refine Clo.seq locs rfl ?_)); (exact Clo.lpost)) ?_
    · show Up 0 (L191_1_S a0 x0 (x0.1, [], (IntKind.wrap .i64 (x0.2 + 1)))) _
      delta L191_1_S
      refine Up.of (N := 19) (N' := 19) [] rfl rfl (by decide) ?_ ?_
      · refine RegsR.set ?_ (RegsR.set ?_ (RegsR.set ?_ (RegsR.set ?_ (RegsR.set ?_ (RegsR.set ?_ RegsR.none)))))
        all_goals (try simp only [go_sem, List.map_append, List.map_cons, List.map_nil])
        all_goals (first | exact VR.d _ | exact VR.ptr' rfl | exact VR.sl'' rfl (by simp))
      · refine BlksR.set (show BlkR _ _ (Heap.get _ 18) from ?_) (BlksR.set (show BlkR _ _ (Heap.get _ 6) from ?_) (BlksR.set (show BlkR _ _ (Heap.get _ 0) from ?_) (BlksR.at)))
        all_goals (try simp only [go_sem, List.map_append, List.map_cons, List.map_nil])
        all_goals (((repeat' first | trivial | exact BlkR.refl_d | refine BlkR.els (by simp) ?_ | exact VRL.refl_d _ _); done))
    · dsimp only [L191_1_F]
      try simp only [go_sem]
      refine WGuard_pure (v := .d (.int .i64 r20.2.1)) (fun hb50 => by (simp only [go_sem, hc2, hb50]; done)) ?_
      try simp only [go_sem]
      refine WGuard_pure (v := .ptr 0 0 0) (fun hb49 => by (simp only [go_sem, hc2, hb49]; done)) ?_
      try simp only [go_sem]
      refine WGuard_pure (v := .d (.list a0.nodes.n (a0.nodes.l.map eNode))) (fun hb48 => by (simp only [go_sem, hc2, hb48]; done)) ?_
      try simp only [go_sem]
      refine WGuard_pure (v := .d (.int .i64 (a0.nodes.l.length : Int))) (fun hb47 => by (simp only [go_sem, hc2, hb47]; done)) ?_
      try simp only [go_sem]
      refine WGuard_pure (v := .d (.bool (decide (r20.2.1 ≤ (a0.nodes.l.length : Int))))) (fun hb46 => by (simp only [go_sem, hc2, hb46]; done)) ?_
      try simp only [go_sem]
      refine WGuard_split (fun hc22 => ?_) (fun hc23 => ?_)
      · rw [if_pos hc22] at h
        try simp only [go_sem, hc22]
        obtain ⟨y24, hy25, h⟩ := bs h
        try simp only [go_sem, rdA_pos hy25, rdA_ge hy25, rdA_lt hy25, rdA_len hy25, rdA_map (D.int .i64) hy25]
        obtain ⟨r28, hl29, h⟩ := bs h
        refine WBr.cut (n := 0) .normal ⟨((((((Regs.none.set 1 (.ptr 0 0 0)).set 3 (.sl 6 0 (((IntKind.wrap .i64 ((a0.nodes.l.length : Int) + 1))).toNat))).set 5 (mb 18 (r20.1.map fun z => V.d ((D.int .i64) z)))).set 7 (.d (.int .i64 r28))).set 19 (.d (.int .i64 (a0.nodes.l.length : Int)))).set 20 (.d (.int .i64 x0.2))), ((((Heap.at 36).set 0 (some (.els 1 [.d (eForest a0)] 0))).set 6 (some (.els 1 (r20.2.2.map fun z => V.d ((D.int .i64) z)) (0)))).set 18 (mbB 1 r20.1.length (r20.1.map fun z => V.d ((D.int .i64) z))))⟩ ?_ (by (repeat (first | refine Clo.block ?_ | refine Clo.seq locs rfl ?_)); (exact Clo.lpost)) ?_
        · replace h := hl29
          refine WBr_splitN (fun hc26 => ?_) (fun hc27 => ?_)
          · rw [if_pos (show (!(y24 == 2)) = true by (rw [hc26]; rfl))] at h
            try simp only [go_sem, rdA_pos hy25, rdA_ge hy25, rdA_lt hy25, rdA_len hy25, rdA_map (D.int .i64) hy25]
            cases h
            exact ⟨rfl, Up.of (N := 36) (N' := 37) [] rfl rfl (by decide) (.set (.d _) (.set (.d _) (.set (.d _) (.set (.mb rfl) (.set (.sl'' rfl (by rfl)) (.set (.ptr' rfl) RegsR.none)))))) (.set (BlkR.mb (Nat.le_refl _) (VRL.refl_d _ _)) (.set (BlkR.arr (e := (D.int .i64)) (l := r20.2.2) (by rfl) (by exact Nat.le_refl _)) (.set BlkR.refl_d BlksR.at)))⟩
          · rw [if_neg (ffn hc27)] at h
            try simp only [go_sem, rdA_pos hy25, rdA_ge hy25, rdA_lt hy25, rdA_len hy25, rdA_map (D.int .i64) hy25]
            cases h
            exact ⟨rfl, Up.of (N := 36) (N' := 36) [] rfl rfl (by decide) (.set (.d _) (.set (.d _) (.set (.d _) (.set (.mb rfl) (.set (.sl'' rfl (by rfl)) (.set (.ptr' rfl) RegsR.none)))))) (.set (BlkR.mb (Nat.le_refl _) (VRL.refl_d _ _)) (.set (BlkR.arr (e := (D.int .i64)) (l := r20.2.2) (by rfl) (by exact Nat.le_refl _)) (.set BlkR.refl_d BlksR.at)))⟩
        · try simp only [go_sem, rdA_pos hy25, rdA_ge hy25, rdA_lt hy25, rdA_len hy25, rdA_map (D.int .i64) hy25]
          obtain ⟨r36, hl37, h⟩ := bs h
          refine Wp.loopR locs (n := 0) (a := c191B1) rfl (L191_2_S a0 x0 r20 r28) (L191_2_F a0 x0 r20 r28) (L191_2_ok a0 x0 r20 r28) hl37 ?_ (by (repeat (first | refine Clo.block ?_ | refine Clo.seq locs rfl ?_)); (exact Clo.lpost)) ?_
          · show Up 0 (L191_2_S a0 x0 r20 r28 (r20.2.2, 0)) _
            delta L191_2_S
            exact Up.of (N := 39) (N' := 39) [] rfl rfl (by decide) (.set (.d _) (.set (.d _) (.set (.mb rfl) (.set (.d _) (.set (.d _) (.set (.d _) (.set (.sl'' rfl (by rfl)) (.set (.ptr' rfl) RegsR.none)))))))) (.set (BlkR.mb (Nat.le_refl _) (VRL.refl_d _ _)) (.set (BlkR.arr (e := (D.int .i64)) (l := r20.2.2) (by rfl) (by exact Nat.le_refl _)) (.set BlkR.refl_d BlksR.at)))
          · dsimp only [L191_2_F]
            try simp only [go_sem, rdA_pos hy25, rdA_ge hy25, rdA_lt hy25, rdA_len hy25, rdA_map (D.int .i64) hy25]
            cases h
            exact ⟨rfl, Up.of (N := 12) (N' := 41) [] rfl rfl (by decide) (.set (.d _) (.set (.d _) (.set (.sl'' rfl (by rfl)) (.set (.ptr' rfl) RegsR.none)))) (.set (BlkR.arr (e := (D.int .i64)) (l := r36) (by rfl) (by exact Nat.le_refl _)) (.set BlkR.refl_d BlksR.at))⟩
      · rw [if_neg (ff hc23)] at h
        try simp only [go_sem, hc23]
        obtain ⟨r44, hl45, h⟩ := bs h
        refine Wp.loopR locs (n := 0) (a := c191B1) rfl (L191_3_S a0 x0 r20) (L191_3_F a0 x0 r20) (L191_3_ok a0 x0 r20) hl45 ?_ (by (repeat (first | refine Clo.block ?_ | refine Clo.seq locs rfl ?_)); (exact Clo.lpost)) ?_
        · show Up 0 (L191_3_S a0 x0 r20 (r20.2.2, 0)) _
          delta L191_3_S
          exact Up.of (N := 39) (N' := 39) [] rfl rfl (by decide) (.set (.d _) (.set (.d _) (.set (.mb rfl) (.set (.d _) (.set (.d _) (.set (.d _) (.set (.sl'' rfl (by rfl)) (.set (.ptr' rfl) RegsR.none)))))))) (.set (BlkR.mb (Nat.le_refl _) (VRL.refl_d _ _)) (.set (BlkR.arr (e := (D.int .i64)) (l := r20.2.2) (by rfl) (by exact Nat.le_refl _)) (.set BlkR.refl_d BlksR.at)))
        · dsimp only [L191_3_F]
          try simp only [go_sem]
          cases h
          exact ⟨rfl, Up.of (N := 12) (N' := 41) [] rfl rfl (by decide) (.set (.d _) (.set (.d _) (.set (.sl'' rfl (by rfl)) (.set (.ptr' rfl) RegsR.none)))) (.set (BlkR.arr (e := (D.int .i64)) (l := r44) (by rfl) (by exact Nat.le_refl _)) (.set BlkR.refl_d BlksR.at))⟩
  · rw [if_neg (ff hc3)] at h
    try simp only [go_sem]
    cases h
    exact ⟨rfl, by simp, Up.of (N := 12) (N' := 13) [] rfl rfl (by decide) (.set (.sl'' rfl (by rfl)) RegsR.none) (.set (BlkR.arr (e := (D.int .i64)) (l := x0.1) (by rfl) (by exact Nat.le_refl _)) BlksR.at)⟩
def L191_4_S (a0 : Forest) (r51 : List (Int)) (x4 : List (Bool) × Int) : St := ⟨((((Regs.none.set 3 (.sl 6 0 (((IntKind.wrap .i64 ((a0.nodes.l.length : Int) + 1))).toNat))).set 10 (.sl 14 0 (((IntKind.wrap .i64 ((a0.nodes.l.length : Int) + 1))).toNat))).set 87 (.d (.int .i64 (((((IntKind.wrap .i64 ((a0.nodes.l.length : Int) + 1))).toNat) : Nat) : Int)))).set 88 (.d (.int .i64 x4.2))), (((Heap.at 19).set 6 (some (.els 1 (r51.map fun z => V.d ((D.int .i64) z)) (0)))).set 14 (some (.els 1 (x4.1.map fun z => V.d (D.bool z)) (0))))⟩
def L191_4_F (a0 : Forest) (r51 : List (Int)) : ((List (Bool))) → Ex × St := fun r => (.exit 6, ⟨(Regs.none.set 10 (.sl 14 0 (((IntKind.wrap .i64 ((a0.nodes.l.length : Int) + 1))).toNat))), ((Heap.at 19).set 14 (some (.els 1 (r.map fun z => V.d (D.bool z)) (0))))⟩)
noncomputable def L191_4_step (a0 : Forest) (r51 : List (Int)) (x4 : List (Bool) × Int) : Option ((List (Bool) × Int) ⊕ ((List (Bool)))) :=
  if (decide (x4.2 < (((((IntKind.wrap .i64 ((a0.nodes.l.length : Int) + 1))).toNat) : Nat) : Int))) = true then
    (rdA r51 (((IntKind.wrap .i64 ((a0.nodes.l.length : Int) + 1))).toNat) x4.2).bind fun y56 =>
    (rdA x4.1 (((IntKind.wrap .i64 ((a0.nodes.l.length : Int) + 1))).toNat) x4.2).bind fun y58 =>
    some (.inl ((x4.1.set (x4.2).toNat (y56 == 2)), (IntKind.wrap .i64 (x4.2 + 1))))
  else
    some (.inr x4.1)
theorem L191_4_ok (a0 : Forest) (r51 : List (Int)) (x4 : List (Bool) × Int) (o : (List (Bool) × Int) ⊕ ((List (Bool)))) (h : L191_4_step a0 r51 x4 = some o) : Wp prog c191B3 (L191_4_S a0 r51 x4) (LPost 0 (L191_4_S a0 r51) (L191_4_F a0 r51) o) := by
  unfold L191_4_step at h
  delta c191B3 L191_4_S
  try simp only [go_sem]
  refine WBr_split (fun hc54 => ?_) (fun hc55 => ?_)
  · rw [if_pos hc54] at h
    try simp only [go_sem]
    obtain ⟨y56, hy57, h⟩ := bs h
    try simp only [go_sem, rdA_pos hy57, rdA_ge hy57, rdA_lt hy57, rdA_len hy57, rdA_map (D.int .i64) hy57]
    obtain ⟨y58, hy59, h⟩ := bs h
    try simp only [go_sem, rdA_pos hy57, rdA_ge hy57, rdA_lt hy57, rdA_len hy57, rdA_map (D.int .i64) hy57, rdA_pos hy59, rdA_ge hy59, rdA_lt hy59, rdA_len hy59, rdA_map D.bool hy59]
    cases h
    exact ⟨rfl, Up.of (N := 19) (N' := 33) [] rfl rfl (by decide) (.set (.d _) (.set (.d _) (.set (.sl'' rfl (by rfl)) (.set (.sl'' rfl (by rfl)) RegsR.none)))) (.set (BlkR.arr (e := D.bool) (l := (x4.1.set (x4.2).toNat (y56 == 2))) (by rfl) (by exact Nat.le_refl _)) (.set (BlkR.arr (e := (D.int .i64)) (l := r51) (by rfl) (by exact Nat.le_refl _)) BlksR.at))⟩
  · rw [if_neg (ff hc55)] at h
    try simp only [go_sem]
    cases h
    exact ⟨rfl, by simp, Up.of (N := 19) (N' := 20) [] rfl rfl (by decide) (.set (.sl'' rfl (by rfl)) RegsR.none) (.set (BlkR.arr (e := D.bool) (l := x4.1) (by rfl) (by exact Nat.le_refl _)) BlksR.at)⟩
noncomputable def P191 (a0 : Forest) : Option (Sl (Bool)) :=
  if 0 ≤ (IntKind.wrap .i64 ((a0.nodes.l.length : Int) + 1)) ∧ ((IntKind.wrap .i64 ((a0.nodes.l.length : Int) + 1))).toNat * 8 ≤ AI.roomBytes then
    (loopV (L191_0_step a0) ((List.replicate ((IntKind.wrap .i64 ((a0.nodes.l.length : Int) + 1))).toNat 0), 0)).bind fun r51 =>
    if 0 ≤ ((((IntKind.wrap .i64 ((a0.nodes.l.length : Int) + 1))).toNat : Nat) : Int) ∧ (((IntKind.wrap .i64 ((a0.nodes.l.length : Int) + 1))).toNat) * 1 ≤ AI.roomBytes then
      (loopV (L191_4_step a0 r51) ((List.replicate (((IntKind.wrap .i64 ((a0.nodes.l.length : Int) + 1))).toNat) false), 0)).bind fun r60 =>
      if r60.length = (((IntKind.wrap .i64 ((a0.nodes.l.length : Int) + 1))).toNat) then
        some (⟨false, r60⟩)
      else none
    else none
  else none
theorem ok191 (a0 : Forest) (r : Sl (Bool)) (h : P191 a0 = some r) : pc prog 191 [eForest a0] = some ((eSl D.bool) r) := by
  unfold P191 at h
  refine pc_of (fn := c191) rfl rfl ?_
  delta c191
  try simp only [go_sem]
  obtain ⟨hm1, h⟩ := ite_some h
  simp only [go_sem, e_mkSlice, asNat_int, hm1.1, hm1.2, Nat.le_refl, and_self, if_true, Option.bind_some, rep_int, rep_bool, rep_str]
  obtain ⟨r51, hl52, h⟩ := bs h
  refine Wp.loopR locs (n := 0) (a := c191B2) rfl (L191_0_S a0) (L191_0_F a0) (L191_0_ok a0) hl52 ?_ (by (repeat (first | refine Clo.block ?_ | refine Clo.seq locs rfl ?_)); (exact Clo.ret)) ?_
  · show Up 0 (L191_0_S a0 ((List.replicate ((IntKind.wrap .i64 ((a0.nodes.l.length : Int) + 1))).toNat 0), 0)) _
    delta L191_0_S
    exact Up.of (N := 12) (N' := 12) [] rfl rfl (by decide) (.set (.d _) (.set (.d _) (.set (.sl'' rfl (by rfl)) (.set (.ptr' rfl) RegsR.none)))) (.set (BlkR.arr (e := (D.int .i64)) (l := (List.replicate ((IntKind.wrap .i64 ((a0.nodes.l.length : Int) + 1))).toNat 0)) (by rfl) (by exact Nat.le_refl _)) (.set BlkR.refl_d BlksR.at))
  · dsimp only [L191_0_F]
    try simp only [go_sem, hm1.1, hm1.2]
    obtain ⟨hm53, h⟩ := ite_some h
    simp only [go_sem, hm1.1, hm1.2, e_mkSlice, asNat_int, hm53.1, hm53.2, Nat.le_refl, and_self, if_true, Option.bind_some, rep_int, rep_bool, rep_str]
    obtain ⟨r60, hl61, h⟩ := bs h
    refine Wp.loopR locs (n := 0) (a := c191B3) rfl (L191_4_S a0 r51) (L191_4_F a0 r51) (L191_4_ok a0 r51) hl61 ?_ (by (repeat (first | refine Clo.block ?_ | refine Clo.seq locs rfl ?_)); (exact Clo.ret)) ?_
    · show Up 0 (L191_4_S a0 r51 ((List.replicate (((IntKind.wrap .i64 ((a0.nodes.l.length : Int) + 1))).toNat) false), 0)) _
      delta L191_4_S
      exact Up.of (N := 19) (N' := 19) [] rfl rfl (by decide) (.set (.d _) (.set (.d _) (.set (.sl'' rfl (by rfl)) (.set (.sl'' rfl (by rfl)) RegsR.none)))) (.set (BlkR.arr (e := D.bool) (l := (List.replicate (((IntKind.wrap .i64 ((a0.nodes.l.length : Int) + 1))).toNat) false)) (by rfl) (by exact Nat.le_refl _)) (.set (BlkR.arr (e := (D.int .i64)) (l := r51) (by rfl) (by exact Nat.le_refl _)) BlksR.at))
    · dsimp only [L191_4_F]
      try simp only [go_sem, hm1.1, hm1.2, hm53.1, hm53.2]
      obtain ⟨hq62, h⟩ := ite_some h
      cases h
      refine Reads.ofv (v' := .sl 14 0 (((IntKind.wrap .i64 ((a0.nodes.l.length : Int) + 1))).toNat)) (by rfl) (Rd.sl (e := D.bool) (l := r60) (sz := 1) (fz := 0) (m := r60.map fun z => V.d (D.bool z)) (by simp only [go_sem, List.map_append, List.map_cons, List.map_nil, hm1.1, hm1.2, hm53.1, hm53.2, hq62]) rfl (by exact hq62)) rfl
noncomputable def P192 (a0 : Node) : Option (Bool) :=
  (dec eforest_trait (pc prog 215 [.int .u8 a0.kind])).bind fun r1 =>
  if r1.known = true then
    (dec D.bool (pc prog 216 [eNode a0, eforest_trait r1])).bind fun r5 =>
    if r5 = true then
      (dec D.bool (pc prog 217 [.list a0.attrs.n (a0.attrs.l.map eAttr)])).bind fun r9 =>
      (if (!r9) = true then
        some (.inr ())
      else
        (dec D.bool (pc prog 218 [.list false (([a0.public_, a0.system]).map D.str)])).bind fun r13 =>
        if r13 = true then
          if (!(a0.kind == 10)) = true then
            if (bif (!(a0.public_ == [])) then true else (!(a0.system == []))) = true then
              some (.inr ())
            else
              if (!(decide (16384 < (a0.data.l.length : Int)))) = true then
                if (!(bif (!r1.data) then (decide (0 < (a0.data.l.length : Int))) else false)) = true then
                  (if (bif (!r1.kids) then (decide (0 < (a0.kids.l.length : Int))) else false) = true then
                    some (.inr ())
                  else
                    if (!(a0.kind == 1)) = true then
                      if (!(bif (decide (0 < (a0.attrs.l.length : Int))) then true else (!(a0.shadow == 0)))) = true then
                        if (bif (!(a0.kind == 9)) then a0.hTML else false) = true then
                          some (.inr ())
                        else
                          if (bif (!r1.hung) then (!(a0.parent == 0)) else false) = true then
                            some (.inr ())
                          else
                            some (.inl ())
                      else
                        some (.inr ())
                    else
                      if (bif (!(a0.kind == 9)) then a0.hTML else false) = true then
                        some (.inr ())
                      else
                        if (bif (!r1.hung) then (!(a0.parent == 0)) else false) = true then
                          some (.inr ())
                        else
                          some (.inl ()) : Option ((Unit) ⊕ (Unit))).bind fun r71 =>
                  match r71 with
                  | (.inl q73) =>
                    some (.inl ())
                  | (.inr q74) =>
                    some (.inr ())
                else
                  some (.inr ())
              else
                some (.inr ())
          else
            if (!(decide (16384 < (a0.data.l.length : Int)))) = true then
              if (!(bif (!r1.data) then (decide (0 < (a0.data.l.length : Int))) else false)) = true then
                (if (bif (!r1.kids) then (decide (0 < (a0.kids.l.length : Int))) else false) = true then
                  some (.inr ())
                else
                  if (!(a0.kind == 1)) = true then
                    if (!(bif (decide (0 < (a0.attrs.l.length : Int))) then true else (!(a0.shadow == 0)))) = true then
                      if (bif (!(a0.kind == 9)) then a0.hTML else false) = true then
                        some (.inr ())
                      else
                        if (bif (!r1.hung) then (!(a0.parent == 0)) else false) = true then
                          some (.inr ())
                        else
                          some (.inl ())
                    else
                      some (.inr ())
                  else
                    if (bif (!(a0.kind == 9)) then a0.hTML else false) = true then
                      some (.inr ())
                    else
                      if (bif (!r1.hung) then (!(a0.parent == 0)) else false) = true then
                        some (.inr ())
                      else
                        some (.inl ()) : Option ((Unit) ⊕ (Unit))).bind fun r157 =>
                match r157 with
                | (.inl q159) =>
                  some (.inl ())
                | (.inr q160) =>
                  some (.inr ())
              else
                some (.inr ())
            else
              some (.inr ())
        else
          some (.inr ()) : Option ((Unit) ⊕ (Unit))).bind fun r224 =>
      match r224 with
      | (.inl q226) =>
        if (a0.kind == 12) = true then
          some (bif (a0.mode == 1) then true else (a0.mode == 2))
        else
          some (bif (bif (a0.mode == 0) then (!a0.manual) else false) then (a0.host == 0) else false)
      | (.inr q238) =>
        some false
    else
      some false
  else
    some false
theorem ok192 (a0 : Node) (r : Bool) (h : P192 a0 = some r) : pc prog 192 [eNode a0] = some (D.bool r) := by
  unfold P192 at h
  refine pc_of (fn := c192) rfl rfl ?_
  delta c192
  try simp only [go_sem]
  obtain ⟨r1, hr2, h⟩ := bs h
  replace hr2 := dec_some hr2
  refine WVal_pc hr2 ?_
  try simp only [go_sem]
  refine WGuard_pure (v := .d (eNode a0)) (fun hb242 => by (simp only [go_sem, hb242]; done)) ?_
  try simp only [go_sem]
  refine WGuard_pure (v := .d (eforest_trait r1)) (fun hb241 => by (simp only [go_sem, hb241]; done)) ?_
  try simp only [go_sem]
  refine WGuard_split (fun hc3 => ?_) (fun hc4 => ?_)
  · rw [if_pos hc3] at h
    try simp only [go_sem, hc3]
    obtain ⟨r5, hr6, h⟩ := bs h
    replace hr6 := dec_some hr6
    refine WVal_pc hr6 ?_
    try simp only [go_sem]
    refine WGuard_pure (v := .ptr 0 0 7) (fun hb240 => by (simp only [go_sem, hc3, hb240]; done)) ?_
    try simp only [go_sem]
    refine WGuard_pure (v := .d (.list a0.attrs.n (a0.attrs.l.map eAttr))) (fun hb239 => by (simp only [go_sem, hc3, hb239]; done)) ?_
    try simp only [go_sem]
    refine WGuard_split (fun hc7 => ?_) (fun hc8 => ?_)
    · rw [if_pos hc7] at h
      try simp only [go_sem, hc7]
      obtain ⟨r9, hr10, h⟩ := bs h
      replace hr10 := dec_some hr10
      refine WVal_pc hr10 ?_
      try simp only [go_sem]
      obtain ⟨r224, hl225, h⟩ := bs h
      refine WBr.cut (n := 0) ((fun r => match r with   | (.inl r) => (.normal, ⟨(Regs.none.set 1 (.ptr 0 0 0)), ((Heap.at 27).set 0 (some (.els 16 [.d (eNode a0)] 0)))⟩)   | (.inr r) => (.ret, ⟨(Regs.none.set 2 (.d (.bool false))), (Heap.at 27)⟩) : ((Unit) ⊕ (Unit)) → Ex × St) r224).1 ((fun r => match r with   | (.inl r) => (.normal, ⟨(Regs.none.set 1 (.ptr 0 0 0)), ((Heap.at 27).set 0 (some (.els 16 [.d (eNode a0)] 0)))⟩)   | (.inr r) => (.ret, ⟨(Regs.none.set 2 (.d (.bool false))), (Heap.at 27)⟩) : ((Unit) ⊕ (Unit)) → Ex × St) r224).2 ?_ (by (repeat (first | refine Clo.block ?_ | refine Clo.seq locs rfl ?_)); (exact Clo.ret)) ?_
      · replace h := hl225
        refine WBr_splitN (fun hc11 => ?_) (fun hc12 => ?_)
        · rw [if_pos (show (!r9) = true by (rw [hc11]; rfl))] at h
          try simp only [go_sem]
          cases h
          exact ⟨rfl, Up.of (N := 27) (N' := 28) [] rfl rfl (by decide) (.set (.d _) RegsR.none) BlksR.at⟩
        · rw [if_neg (ffn hc12)] at h
          try simp only [go_sem]
          obtain ⟨r13, hr14, h⟩ := bs h
          replace hr14 := dec_some hr14
          refine WVal_pc hr14 ?_
          try simp only [go_sem]
          refine WGuard_pure (v := .ptr 0 0 0) (fun hb223 => by (simp only [go_sem, hc3, hc7, hc12, hb223]; done)) ?_
          try simp only [go_sem]
          refine WGuard_pure (v := .d (.int .u8 a0.kind)) (fun hb222 => by (simp only [go_sem, hc3, hc7, hc12, hb222]; done)) ?_
          try simp only [go_sem]
          refine WGuard_pure (v := .d (.bool (!(a0.kind == 10)))) (fun hb221 => by (simp only [go_sem, hc3, hc7, hc12, hb221]; done)) ?_
          try simp only [go_sem]
          refine WGuard_pure (v := .d (.bool (!(a0.kind == 10)))) (fun hb220 => by (simp only [go_sem, hc3, hc7, hc12, hb220]; done)) ?_
          try simp only [go_sem]
          refine WGuard_pure (v := .ptr 0 0 4) (fun hb217 => by ((obtain ⟨hb218, hb219⟩ := bif_true hb217)); (simp only [go_sem, hc3, hc7, hc12, hb219, hb218]; done)) ?_
          try simp only [go_sem]
          refine WGuard_pure (v := .d (.str a0.public_)) (fun hb214 => by ((obtain ⟨hb215, hb216⟩ := bif_true hb214)); (simp only [go_sem, hc3, hc7, hc12, hb216, hb215]; done)) ?_
          try simp only [go_sem]
          refine WGuard_pure (v := .d (.bool (!(a0.public_ == [])))) (fun hb211 => by ((obtain ⟨hb212, hb213⟩ := bif_true hb211)); (simp only [go_sem, hc3, hc7, hc12, hb213, hb212]; done)) ?_
          try simp only [go_sem]
          refine WGuard_pure (v := .d (.bool (!(a0.public_ == [])))) (fun hb208 => by ((obtain ⟨hb209, hb210⟩ := bif_true hb208)); (simp only [go_sem, hc3, hc7, hc12, hb210, hb209]; done)) ?_
          try simp only [go_sem]
          refine WGuard_pure (v := .ptr 0 0 5) (fun hb203 => by ((obtain ⟨hb204, hb205⟩ := bif_true hb203); (obtain ⟨hb206, hb207⟩ := bif_true hb204)); (simp only [go_sem, hc3, hc7, hc12, hb205, hb207, hb206]; done)) ?_
          try simp only [go_sem]
          refine WGuard_pure (v := .d (.str a0.system)) (fun hb198 => by ((obtain ⟨hb199, hb200⟩ := bif_true hb198); (obtain ⟨hb201, hb202⟩ := bif_true hb199)); (simp only [go_sem, hc3, hc7, hc12, hb200, hb202, hb201]; done)) ?_
          try simp only [go_sem]
          refine WGuard_pure (v := .d (.bool (!(a0.system == [])))) (fun hb193 => by ((obtain ⟨hb194, hb195⟩ := bif_true hb193); (obtain ⟨hb196, hb197⟩ := bif_true hb194)); (simp only [go_sem, hc3, hc7, hc12, hb195, hb197, hb196]; done)) ?_
          try simp only [go_sem]
          rcases Bool.eq_false_or_eq_true (r13) with hc15 | hc16
          · rw [if_pos hc15] at h
            try simp only [go_sem, hc15]
            refine WGuard_splitN (fun hc17 => ?_) (fun hc18 => ?_)
            · rw [if_pos (show (!(a0.kind == 10)) = true by (rw [hc17]; rfl))] at h
              try simp only [go_sem, hc17]
              try simp only [go_sem, hc3, hc7, hc12, hc15, hc17]
              refine WBr_split (fun hc19 => ?_) (fun hc20 => ?_)
              · rw [if_pos hc19] at h
                try simp only [go_sem]
                cases h
                exact ⟨rfl, Up.of (N := 27) (N' := 51) [] rfl rfl (by decide) (.set (.d _) RegsR.none) BlksR.at⟩
              · rw [if_neg (ff hc20)] at h
                try simp only [go_sem]
                refine WGuard_pure (v := .ptr 5 0 1) (fun hb106 => by (simp only [go_sem, hc3, hc7, hc12, hc15, hc17, hc20, hb106]; done)) ?_
                try simp only [go_sem]
                refine WGuard_pure (v := .d (.bool r1.data)) (fun hb105 => by (simp only [go_sem, hc3, hc7, hc12, hc15, hc17, hc20, hb105]; done)) ?_
                try simp only [go_sem]
                refine WGuard_pure (v := .d (.bool (!r1.data))) (fun hb104 => by (simp only [go_sem, hc3, hc7, hc12, hc15, hc17, hc20, hb104]; done)) ?_
                try simp only [go_sem]
                refine WGuard_pure (v := .d (.bool (!r1.data))) (fun hb103 => by (simp only [go_sem, hc3, hc7, hc12, hc15, hc17, hc20, hb103]; done)) ?_
                try simp only [go_sem]
                refine WGuard_pure (v := .ptr 0 0 6) (fun hb100 => by ((obtain ⟨hb101, hb102⟩ := bif_true hb100)); (simp only [go_sem, hc3, hc7, hc12, hc15, hc17, hc20, hb102, hb101]; done)) ?_
                try simp only [go_sem]
                refine WGuard_pure (v := .d (.list a0.data.n (a0.data.l.map (D.int .u16)))) (fun hb97 => by ((obtain ⟨hb98, hb99⟩ := bif_true hb97)); (simp only [go_sem, hc3, hc7, hc12, hc15, hc17, hc20, hb99, hb98]; done)) ?_
                try simp only [go_sem]
                refine WGuard_pure (v := .d (.int .i64 (a0.data.l.length : Int))) (fun hb94 => by ((obtain ⟨hb95, hb96⟩ := bif_true hb94)); (simp only [go_sem, hc3, hc7, hc12, hc15, hc17, hc20, hb96, hb95]; done)) ?_
                try simp only [go_sem]
                refine WGuard_pure (v := .d (.bool (decide (0 < (a0.data.l.length : Int))))) (fun hb91 => by ((obtain ⟨hb92, hb93⟩ := bif_true hb91)); (simp only [go_sem, hc3, hc7, hc12, hc15, hc17, hc20, hb93, hb92]; done)) ?_
                try simp only [go_sem]
                refine WGuard_splitN (fun hc21 => ?_) (fun hc22 => ?_)
                · rw [if_pos (show (!(decide (16384 < (a0.data.l.length : Int)))) = true by (rw [hc21]; rfl))] at h
                  try simp only [go_sem, hc21]
                  refine WGuard_pure (v := .ptr 5 0 2) (fun hb90 => by (simp only [go_sem, hc3, hc7, hc12, hc15, hc17, hc20, hc21, hb90]; done)) ?_
                  try simp only [go_sem]
                  refine WGuard_pure (v := .d (.bool r1.kids)) (fun hb89 => by (simp only [go_sem, hc3, hc7, hc12, hc15, hc17, hc20, hc21, hb89]; done)) ?_
                  try simp only [go_sem]
                  refine WGuard_pure (v := .d (.bool (!r1.kids))) (fun hb88 => by (simp only [go_sem, hc3, hc7, hc12, hc15, hc17, hc20, hc21, hb88]; done)) ?_
                  try simp only [go_sem]
                  refine WGuard_pure (v := .d (.bool (!r1.kids))) (fun hb87 => by (simp only [go_sem, hc3, hc7, hc12, hc15, hc17, hc20, hc21, hb87]; done)) ?_
                  try simp only [go_sem]
                  refine WGuard_pure (v := .ptr 0 0 9) (fun hb84 => by ((obtain ⟨hb85, hb86⟩ := bif_true hb84)); (simp only [go_sem, hc3, hc7, hc12, hc15, hc17, hc20, hc21, hb86, hb85]; done)) ?_
                  try simp only [go_sem]
                  refine WGuard_pure (v := .d (.list a0.kids.n (a0.kids.l.map (D.int .i64)))) (fun hb81 => by ((obtain ⟨hb82, hb83⟩ := bif_true hb81)); (simp only [go_sem, hc3, hc7, hc12, hc15, hc17, hc20, hc21, hb83, hb82]; done)) ?_
                  try simp only [go_sem]
                  refine WGuard_pure (v := .d (.int .i64 (a0.kids.l.length : Int))) (fun hb78 => by ((obtain ⟨hb79, hb80⟩ := bif_true hb78)); (simp only [go_sem, hc3, hc7, hc12, hc15, hc17, hc20, hc21, hb80, hb79]; done)) ?_
                  try simp only [go_sem]
                  refine WGuard_pure (v := .d (.bool (decide (0 < (a0.kids.l.length : Int))))) (fun hb75 => by ((obtain ⟨hb76, hb77⟩ := bif_true hb75)); (simp only [go_sem, hc3, hc7, hc12, hc15, hc17, hc20, hc21, hb77, hb76]; done)) ?_
                  try simp only [go_sem]
                  refine WGuard_splitN (fun hc23 => ?_) (fun hc24 => ?_)
                  · rw [if_pos (show (!(bif (!r1.data) then (decide (0 < (a0.data.l.length : Int))) else false)) = true by (rw [hc23]; rfl))] at h
                    try simp only [go_sem, hc23]
                    obtain ⟨r71, hl72, h⟩ := bs h
                    refine WBr.cut (n := 0) ((fun r => match r with   | (.inl r) => (.normal, ⟨(Regs.none.set 1 (.ptr 0 0 0)), ((Heap.at 77).set 0 (some (.els 16 [.d (eNode a0)] 0)))⟩)   | (.inr r) => (.ret, ⟨(Regs.none.set 2 (.d (.bool false))), (Heap.at 77)⟩) : ((Unit) ⊕ (Unit)) → Ex × St) r71).1 ((fun r => match r with   | (.inl r) => (.normal, ⟨(Regs.none.set 1 (.ptr 0 0 0)), ((Heap.at 77).set 0 (some (.els 16 [.d (eNode a0)] 0)))⟩)   | (.inr r) => (.ret, ⟨(Regs.none.set 2 (.d (.bool false))), (Heap.at 77)⟩) : ((Unit) ⊕ (Unit)) → Ex × St) r71).2 ?_ (by (repeat (first | refine Clo.block ?_ | refine Clo.seq locs rfl ?_)); (exact Clo.cpost)) ?_
                    · replace h := hl72
                      refine WBr_split (fun hc25 => ?_) (fun hc26 => ?_)
                      · rw [if_pos hc25] at h
                        try simp only [go_sem]
                        cases h
                        exact ⟨rfl, Up.of (N := 77) (N' := 78) [] rfl rfl (by decide) (.set (.d _) RegsR.none) BlksR.at⟩
                      · rw [if_neg (ff hc26)] at h
                        try simp only [go_sem]
                        refine WGuard_pure (v := .ptr 0 0 7) (fun hb70 => by (simp only [go_sem, hc3, hc7, hc12, hc15, hc17, hc20, hc21, hc23, hc26, hb70]; done)) ?_
                        try simp only [go_sem]
                        refine WGuard_pure (v := .d (.list a0.attrs.n (a0.attrs.l.map eAttr))) (fun hb69 => by (simp only [go_sem, hc3, hc7, hc12, hc15, hc17, hc20, hc21, hc23, hc26, hb69]; done)) ?_
                        try simp only [go_sem]
                        refine WGuard_pure (v := .d (.int .i64 (a0.attrs.l.length : Int))) (fun hb68 => by (simp only [go_sem, hc3, hc7, hc12, hc15, hc17, hc20, hc21, hc23, hc26, hb68]; done)) ?_
                        try simp only [go_sem]
                        refine WGuard_pure (v := .d (.bool (decide (0 < (a0.attrs.l.length : Int))))) (fun hb67 => by (simp only [go_sem, hc3, hc7, hc12, hc15, hc17, hc20, hc21, hc23, hc26, hb67]; done)) ?_
                        try simp only [go_sem]
                        refine WGuard_pure (v := .d (.bool (decide (0 < (a0.attrs.l.length : Int))))) (fun hb66 => by (simp only [go_sem, hc3, hc7, hc12, hc15, hc17, hc20, hc21, hc23, hc26, hb66]; done)) ?_
                        try simp only [go_sem]
                        refine WGuard_pure (v := .ptr 0 0 12) (fun hb63 => by ((obtain ⟨hb64, hb65⟩ := bif_true hb63)); (simp only [go_sem, hc3, hc7, hc12, hc15, hc17, hc20, hc21, hc23, hc26, hb65, hb64]; done)) ?_
                        try simp only [go_sem]
                        refine WGuard_pure (v := .d (.int .i64 a0.shadow)) (fun hb60 => by ((obtain ⟨hb61, hb62⟩ := bif_true hb60)); (simp only [go_sem, hc3, hc7, hc12, hc15, hc17, hc20, hc21, hc23, hc26, hb62, hb61]; done)) ?_
                        try simp only [go_sem]
                        refine WGuard_pure (v := .d (.bool (!(a0.shadow == 0)))) (fun hb57 => by ((obtain ⟨hb58, hb59⟩ := bif_true hb57)); (simp only [go_sem, hc3, hc7, hc12, hc15, hc17, hc20, hc21, hc23, hc26, hb59, hb58]; done)) ?_
                        try simp only [go_sem]
                        refine WGuard_splitN (fun hc27 => ?_) (fun hc28 => ?_)
                        · rw [if_pos (show (!(a0.kind == 1)) = true by (rw [hc27]; rfl))] at h
                          try simp only [go_sem, hc27]
                          refine WGuard_pure (v := .ptr 0 0 0) (fun hb47 => by (simp only [go_sem, hc3, hc7, hc12, hc15, hc17, hc20, hc21, hc23, hc26, hc27, hb47]; done)) ?_
                          try simp only [go_sem]
                          refine WGuard_pure (v := .d (.int .u8 a0.kind)) (fun hb46 => by (simp only [go_sem, hc3, hc7, hc12, hc15, hc17, hc20, hc21, hc23, hc26, hc27, hb46]; done)) ?_
                          try simp only [go_sem]
                          refine WGuard_pure (v := .d (.bool (!(a0.kind == 9)))) (fun hb45 => by (simp only [go_sem, hc3, hc7, hc12, hc15, hc17, hc20, hc21, hc23, hc26, hc27, hb45]; done)) ?_
                          try simp only [go_sem]
                          refine WGuard_pure (v := .d (.bool (!(a0.kind == 9)))) (fun hb44 => by (simp only [go_sem, hc3, hc7, hc12, hc15, hc17, hc20, hc21, hc23, hc26, hc27, hb44]; done)) ?_
                          try simp only [go_sem]
                          refine WGuard_pure (v := .ptr 0 0 15) (fun hb41 => by ((obtain ⟨hb42, hb43⟩ := bif_true hb41)); (simp only [go_sem, hc3, hc7, hc12, hc15, hc17, hc20, hc21, hc23, hc26, hc27, hb43, hb42]; done)) ?_
                          try simp only [go_sem]
                          refine WGuard_pure (v := .d (.bool a0.hTML)) (fun hb38 => by ((obtain ⟨hb39, hb40⟩ := bif_true hb38)); (simp only [go_sem, hc3, hc7, hc12, hc15, hc17, hc20, hc21, hc23, hc26, hc27, hb40, hb39]; done)) ?_
                          try simp only [go_sem]
                          refine WGuard_splitN (fun hc29 => ?_) (fun hc30 => ?_)
                          · rw [if_pos (show (!(bif (decide (0 < (a0.attrs.l.length : Int))) then true else (!(a0.shadow == 0)))) = true by (rw [hc29]; rfl))] at h
                            try simp only [go_sem, hc29]
                            refine WBr_split (fun hc31 => ?_) (fun hc32 => ?_)
                            · rw [if_pos hc31] at h
                              try simp only [go_sem]
                              cases h
                              exact ⟨rfl, Up.of (N := 77) (N' := 101) [] rfl rfl (by decide) (.set (.d _) RegsR.none) BlksR.at⟩
                            · rw [if_neg (ff hc32)] at h
                              try simp only [go_sem]
                              refine WGuard_pure (v := .ptr 0 0 8) (fun hb37 => by (simp only [go_sem, hc3, hc7, hc12, hc15, hc17, hc20, hc21, hc23, hc26, hc27, hc29, hc32, hb37]; done)) ?_
                              try simp only [go_sem]
                              refine WGuard_pure (v := .d (.int .i64 a0.parent)) (fun hb36 => by (simp only [go_sem, hc3, hc7, hc12, hc15, hc17, hc20, hc21, hc23, hc26, hc27, hc29, hc32, hb36]; done)) ?_
                              try simp only [go_sem]
                              refine WGuard_pure (v := .d (.bool (!(a0.parent == 0)))) (fun hb35 => by (simp only [go_sem, hc3, hc7, hc12, hc15, hc17, hc20, hc21, hc23, hc26, hc27, hc29, hc32, hb35]; done)) ?_
                              try simp only [go_sem]
                              refine WBr_split (fun hc33 => ?_) (fun hc34 => ?_)
                              · rw [if_pos hc33] at h
                                try simp only [go_sem]
                                cases h
                                exact ⟨rfl, Up.of (N := 77) (N' := 110) [] rfl rfl (by decide) (.set (.d _) RegsR.none) BlksR.at⟩
                              · rw [if_neg (ff hc34)] at h
                                try simp only [go_sem]
                                cases h
                                exact ⟨rfl, Up.of (N := 77) (N' := 109) [] rfl rfl (by decide) (.set (.ptr' rfl) RegsR.none) (.set BlkR.refl_d BlksR.at)⟩
                          · rw [if_neg (ffn hc30)] at h
                            try simp only [go_sem, hc30]
                            cases h
                            exact ⟨rfl, Up.of (N := 77) (N' := 101) [] rfl rfl (by decide) (.set (.d _) RegsR.none) BlksR.at⟩
                        · rw [if_neg (ffn hc28)] at h
                          try simp only [go_sem, hc28]
                          refine WGuard_pure (v := .ptr 0 0 15) (fun hb56 => by (simp only [go_sem, hc3, hc7, hc12, hc15, hc17, hc20, hc21, hc23, hc26, hc28, hb56]; done)) ?_
                          try simp only [go_sem]
                          refine WGuard_pure (v := .d (.bool a0.hTML)) (fun hb55 => by (simp only [go_sem, hc3, hc7, hc12, hc15, hc17, hc20, hc21, hc23, hc26, hc28, hb55]; done)) ?_
                          try simp only [go_sem]
                          refine WBr_split (fun hc48 => ?_) (fun hc49 => ?_)
                          · rw [if_pos hc48] at h
                            try simp only [go_sem]
                            cases h
                            exact ⟨rfl, Up.of (N := 77) (N' := 101) [] rfl rfl (by decide) (.set (.d _) RegsR.none) BlksR.at⟩
                          · rw [if_neg (ff hc49)] at h
                            try simp only [go_sem]
                            refine WGuard_pure (v := .ptr 0 0 8) (fun hb54 => by (simp only [go_sem, hc3, hc7, hc12, hc15, hc17, hc20, hc21, hc23, hc26, hc28, hc49, hb54]; done)) ?_
                            try simp only [go_sem]
                            refine WGuard_pure (v := .d (.int .i64 a0.parent)) (fun hb53 => by (simp only [go_sem, hc3, hc7, hc12, hc15, hc17, hc20, hc21, hc23, hc26, hc28, hc49, hb53]; done)) ?_
                            try simp only [go_sem]
                            refine WGuard_pure (v := .d (.bool (!(a0.parent == 0)))) (fun hb52 => by (simp only [go_sem, hc3, hc7, hc12, hc15, hc17, hc20, hc21, hc23, hc26, hc28, hc49, hb52]; done)) ?_
                            try simp only [go_sem]
                            refine WBr_split (fun hc50 => ?_) (fun hc51 => ?_)
                            · rw [if_pos hc50] at h
                              try simp only [go_sem]
                              cases h
                              exact ⟨rfl, Up.of (N := 77) (N' := 110) [] rfl rfl (by decide) (.set (.d _) RegsR.none) BlksR.at⟩
                            · rw [if_neg (ff hc51)] at h
                              try simp only [go_sem]
                              cases h
                              exact ⟨rfl, Up.of (N := 77) (N' := 109) [] rfl rfl (by decide) (.set (.ptr' rfl) RegsR.none) (.set BlkR.refl_d BlksR.at)⟩
                    · rcases r71 with (q73 | q74)
                      · dsimp only at h ⊢
                        cases h
                        exact ⟨rfl, Up.of (N := 27) (N' := 77) [] rfl rfl (by decide) (.set (.ptr' rfl) RegsR.none) (.set BlkR.refl_d BlksR.at)⟩
                      · dsimp only at h ⊢
                        cases h
                        exact ⟨rfl, Up.of (N := 27) (N' := 77) [] rfl rfl (by decide) (.set (.d _) RegsR.none) BlksR.at⟩
                  · rw [if_neg (ffn hc24)] at h
                    try simp only [go_sem, hc24]
                    cases h
                    exact ⟨rfl, Up.of (N := 27) (N' := 78) [] rfl rfl (by decide) (.set (.d _) RegsR.none) BlksR.at⟩
                · rw [if_neg (ffn hc22)] at h
                  try simp only [go_sem, hc22]
                  cases h
                  exact ⟨rfl, Up.of (N := 27) (N' := 78) [] rfl rfl (by decide) (.set (.d _) RegsR.none) BlksR.at⟩
            · rw [if_neg (ffn hc18)] at h
              try simp only [go_sem, hc18]
              try simp only [go_sem, hc3, hc7, hc12, hc15, hc18]
              refine WGuard_pure (v := .ptr 5 0 1) (fun hb192 => by (simp only [go_sem, hc3, hc7, hc12, hc15, hc18, hb192]; done)) ?_
              try simp only [go_sem]
              refine WGuard_pure (v := .d (.bool r1.data)) (fun hb191 => by (simp only [go_sem, hc3, hc7, hc12, hc15, hc18, hb191]; done)) ?_
              try simp only [go_sem]
              refine WGuard_pure (v := .d (.bool (!r1.data))) (fun hb190 => by (simp only [go_sem, hc3, hc7, hc12, hc15, hc18, hb190]; done)) ?_
              try simp only [go_sem]
              refine WGuard_pure (v := .d (.bool (!r1.data))) (fun hb189 => by (simp only [go_sem, hc3, hc7, hc12, hc15, hc18, hb189]; done)) ?_
              try simp only [go_sem]
              refine WGuard_pure (v := .ptr 0 0 6) (fun hb186 => by ((obtain ⟨hb187, hb188⟩ := bif_true hb186)); (simp only [go_sem, hc3, hc7, hc12, hc15, hc18, hb188, hb187]; done)) ?_
              try simp only [go_sem]
              refine WGuard_pure (v := .d (.list a0.data.n (a0.data.l.map (D.int .u16)))) (fun hb183 => by ((obtain ⟨hb184, hb185⟩ := bif_true hb183)); (simp only [go_sem, hc3, hc7, hc12, hc15, hc18, hb185, hb184]; done)) ?_
              try simp only [go_sem]
              refine WGuard_pure (v := .d (.int .i64 (a0.data.l.length : Int))) (fun hb180 => by ((obtain ⟨hb181, hb182⟩ := bif_true hb180)); (simp only [go_sem, hc3, hc7, hc12, hc15, hc18, hb182, hb181]; done)) ?_
              try simp only [go_sem]
              refine WGuard_pure (v := .d (.bool (decide (0 < (a0.data.l.length : Int))))) (fun hb177 => by ((obtain ⟨hb178, hb179⟩ := bif_true hb177)); (simp only [go_sem, hc3, hc7, hc12, hc15, hc18, hb179, hb178]; done)) ?_
              try simp only [go_sem]
              refine WGuard_splitN (fun hc107 => ?_) (fun hc108 => ?_)
              · rw [if_pos (show (!(decide (16384 < (a0.data.l.length : Int)))) = true by (rw [hc107]; rfl))] at h
                try simp only [go_sem, hc107]
                refine WGuard_pure (v := .ptr 5 0 2) (fun hb176 => by (simp only [go_sem, hc3, hc7, hc12, hc15, hc18, hc107, hb176]; done)) ?_
                try simp only [go_sem]
                refine WGuard_pure (v := .d (.bool r1.kids)) (fun hb175 => by (simp only [go_sem, hc3, hc7, hc12, hc15, hc18, hc107, hb175]; done)) ?_
                try simp only [go_sem]
                refine WGuard_pure (v := .d (.bool (!r1.kids))) (fun hb174 => by (simp only [go_sem, hc3, hc7, hc12, hc15, hc18, hc107, hb174]; done)) ?_
                try simp only [go_sem]
                refine WGuard_pure (v := .d (.bool (!r1.kids))) (fun hb173 => by (simp only [go_sem, hc3, hc7, hc12, hc15, hc18, hc107, hb173]; done)) ?_
                try simp only [go_sem]
                refine WGuard_pure (v := .ptr 0 0 9) (fun hb170 => by ((obtain ⟨hb171, hb172⟩ := bif_true hb170)); (simp only [go_sem, hc3, hc7, hc12, hc15, hc18, hc107, hb172, hb171]; done)) ?_
                try simp only [go_sem]
                refine WGuard_pure (v := .d (.list a0.kids.n (a0.kids.l.map (D.int .i64)))) (fun hb167 => by ((obtain ⟨hb168, hb169⟩ := bif_true hb167)); (simp only [go_sem, hc3, hc7, hc12, hc15, hc18, hc107, hb169, hb168]; done)) ?_
                try simp only [go_sem]
                refine WGuard_pure (v := .d (.int .i64 (a0.kids.l.length : Int))) (fun hb164 => by ((obtain ⟨hb165, hb166⟩ := bif_true hb164)); (simp only [go_sem, hc3, hc7, hc12, hc15, hc18, hc107, hb166, hb165]; done)) ?_
                try simp only [go_sem]
                refine WGuard_pure (v := .d (.bool (decide (0 < (a0.kids.l.length : Int))))) (fun hb161 => by ((obtain ⟨hb162, hb163⟩ := bif_true hb161)); (simp only [go_sem, hc3, hc7, hc12, hc15, hc18, hc107, hb163, hb162]; done)) ?_
                try simp only [go_sem]
                refine WGuard_splitN (fun hc109 => ?_) (fun hc110 => ?_)
                · rw [if_pos (show (!(bif (!r1.data) then (decide (0 < (a0.data.l.length : Int))) else false)) = true by (rw [hc109]; rfl))] at h
                  try simp only [go_sem, hc109]
                  obtain ⟨r157, hl158, h⟩ := bs h
                  refine WBr.cut (n := 0) ((fun r => match r with   | (.inl r) => (.normal, ⟨(Regs.none.set 1 (.ptr 0 0 0)), ((Heap.at 77).set 0 (some (.els 16 [.d (eNode a0)] 0)))⟩)   | (.inr r) => (.ret, ⟨(Regs.none.set 2 (.d (.bool false))), (Heap.at 77)⟩) : ((Unit) ⊕ (Unit)) → Ex × St) r157).1 ((fun r => match r with   | (.inl r) => (.normal, ⟨(Regs.none.set 1 (.ptr 0 0 0)), ((Heap.at 77).set 0 (some (.els 16 [.d (eNode a0)] 0)))⟩)   | (.inr r) => (.ret, ⟨(Regs.none.set 2 (.d (.bool false))), (Heap.at 77)⟩) : ((Unit) ⊕ (Unit)) → Ex × St) r157).2 ?_ (by (repeat (first | refine Clo.block ?_ | refine Clo.seq locs rfl ?_)); (exact Clo.cpost)) ?_
                  · replace h := hl158
                    refine WBr_split (fun hc111 => ?_) (fun hc112 => ?_)
                    · rw [if_pos hc111] at h
                      try simp only [go_sem]
                      cases h
                      exact ⟨rfl, Up.of (N := 77) (N' := 78) [] rfl rfl (by decide) (.set (.d _) RegsR.none) BlksR.at⟩
                    · rw [if_neg (ff hc112)] at h
                      try simp only [go_sem]
                      refine WGuard_pure (v := .ptr 0 0 7) (fun hb156 => by (simp only [go_sem, hc3, hc7, hc12, hc15, hc18, hc107, hc109, hc112, hb156]; done)) ?_
                      try simp only [go_sem]
                      refine WGuard_pure (v := .d (.list a0.attrs.n (a0.attrs.l.map eAttr))) (fun hb155 => by (simp only [go_sem, hc3, hc7, hc12, hc15, hc18, hc107, hc109, hc112, hb155]; done)) ?_
                      try simp only [go_sem]
                      refine WGuard_pure (v := .d (.int .i64 (a0.attrs.l.length : Int))) (fun hb154 => by (simp only [go_sem, hc3, hc7, hc12, hc15, hc18, hc107, hc109, hc112, hb154]; done)) ?_
                      try simp only [go_sem]
                      refine WGuard_pure (v := .d (.bool (decide (0 < (a0.attrs.l.length : Int))))) (fun hb153 => by (simp only [go_sem, hc3, hc7, hc12, hc15, hc18, hc107, hc109, hc112, hb153]; done)) ?_
                      try simp only [go_sem]
                      refine WGuard_pure (v := .d (.bool (decide (0 < (a0.attrs.l.length : Int))))) (fun hb152 => by (simp only [go_sem, hc3, hc7, hc12, hc15, hc18, hc107, hc109, hc112, hb152]; done)) ?_
                      try simp only [go_sem]
                      refine WGuard_pure (v := .ptr 0 0 12) (fun hb149 => by ((obtain ⟨hb150, hb151⟩ := bif_true hb149)); (simp only [go_sem, hc3, hc7, hc12, hc15, hc18, hc107, hc109, hc112, hb151, hb150]; done)) ?_
                      try simp only [go_sem]
                      refine WGuard_pure (v := .d (.int .i64 a0.shadow)) (fun hb146 => by ((obtain ⟨hb147, hb148⟩ := bif_true hb146)); (simp only [go_sem, hc3, hc7, hc12, hc15, hc18, hc107, hc109, hc112, hb148, hb147]; done)) ?_
                      try simp only [go_sem]
                      refine WGuard_pure (v := .d (.bool (!(a0.shadow == 0)))) (fun hb143 => by ((obtain ⟨hb144, hb145⟩ := bif_true hb143)); (simp only [go_sem, hc3, hc7, hc12, hc15, hc18, hc107, hc109, hc112, hb145, hb144]; done)) ?_
                      try simp only [go_sem]
                      refine WGuard_splitN (fun hc113 => ?_) (fun hc114 => ?_)
                      · rw [if_pos (show (!(a0.kind == 1)) = true by (rw [hc113]; rfl))] at h
                        try simp only [go_sem, hc113]
                        refine WGuard_pure (v := .ptr 0 0 0) (fun hb133 => by (simp only [go_sem, hc3, hc7, hc12, hc15, hc18, hc107, hc109, hc112, hc113, hb133]; done)) ?_
                        try simp only [go_sem]
                        refine WGuard_pure (v := .d (.int .u8 a0.kind)) (fun hb132 => by (simp only [go_sem, hc3, hc7, hc12, hc15, hc18, hc107, hc109, hc112, hc113, hb132]; done)) ?_
                        try simp only [go_sem]
                        refine WGuard_pure (v := .d (.bool (!(a0.kind == 9)))) (fun hb131 => by (simp only [go_sem, hc3, hc7, hc12, hc15, hc18, hc107, hc109, hc112, hc113, hb131]; done)) ?_
                        try simp only [go_sem]
                        refine WGuard_pure (v := .d (.bool (!(a0.kind == 9)))) (fun hb130 => by (simp only [go_sem, hc3, hc7, hc12, hc15, hc18, hc107, hc109, hc112, hc113, hb130]; done)) ?_
                        try simp only [go_sem]
                        refine WGuard_pure (v := .ptr 0 0 15) (fun hb127 => by ((obtain ⟨hb128, hb129⟩ := bif_true hb127)); (simp only [go_sem, hc3, hc7, hc12, hc15, hc18, hc107, hc109, hc112, hc113, hb129, hb128]; done)) ?_
                        try simp only [go_sem]
                        refine WGuard_pure (v := .d (.bool a0.hTML)) (fun hb124 => by ((obtain ⟨hb125, hb126⟩ := bif_true hb124)); (simp only [go_sem, hc3, hc7, hc12, hc15, hc18, hc107, hc109, hc112, hc113, hb126, hb125]; done)) ?_
                        try simp only [go_sem]
                        refine WGuard_splitN (fun hc115 => ?_) (fun hc116 => ?_)
                        · rw [if_pos (show (!(bif (decide (0 < (a0.attrs.l.length : Int))) then true else (!(a0.shadow == 0)))) = true by (rw [hc115]; rfl))] at h
                          try simp only [go_sem, hc115]
                          refine WBr_split (fun hc117 => ?_) (fun hc118 => ?_)
                          · rw [if_pos hc117] at h
                            try simp only [go_sem]
                            cases h
                            exact ⟨rfl, Up.of (N := 77) (N' := 101) [] rfl rfl (by decide) (.set (.d _) RegsR.none) BlksR.at⟩
                          · rw [if_neg (ff hc118)] at h
                            try simp only [go_sem]
                            refine WGuard_pure (v := .ptr 0 0 8) (fun hb123 => by (simp only [go_sem, hc3, hc7, hc12, hc15, hc18, hc107, hc109, hc112, hc113, hc115, hc118, hb123]; done)) ?_
                            try simp only [go_sem]
                            refine WGuard_pure (v := .d (.int .i64 a0.parent)) (fun hb122 => by (simp only [go_sem, hc3, hc7, hc12, hc15, hc18, hc107, hc109, hc112, hc113, hc115, hc118, hb122]; done)) ?_
                            try simp only [go_sem]
                            refine WGuard_pure (v := .d (.bool (!(a0.parent == 0)))) (fun hb121 => by (simp only [go_sem, hc3, hc7, hc12, hc15, hc18, hc107, hc109, hc112, hc113, hc115, hc118, hb121]; done)) ?_
                            try simp only [go_sem]
                            refine WBr_split (fun hc119 => ?_) (fun hc120 => ?_)
                            · rw [if_pos hc119] at h
                              try simp only [go_sem]
                              cases h
                              exact ⟨rfl, Up.of (N := 77) (N' := 110) [] rfl rfl (by decide) (.set (.d _) RegsR.none) BlksR.at⟩
                            · rw [if_neg (ff hc120)] at h
                              try simp only [go_sem]
                              cases h
                              exact ⟨rfl, Up.of (N := 77) (N' := 109) [] rfl rfl (by decide) (.set (.ptr' rfl) RegsR.none) (.set BlkR.refl_d BlksR.at)⟩
                        · rw [if_neg (ffn hc116)] at h
                          try simp only [go_sem, hc116]
                          cases h
                          exact ⟨rfl, Up.of (N := 77) (N' := 101) [] rfl rfl (by decide) (.set (.d _) RegsR.none) BlksR.at⟩
                      · rw [if_neg (ffn hc114)] at h
                        try simp only [go_sem, hc114]
                        refine WGuard_pure (v := .ptr 0 0 15) (fun hb142 => by (simp only [go_sem, hc3, hc7, hc12, hc15, hc18, hc107, hc109, hc112, hc114, hb142]; done)) ?_
                        try simp only [go_sem]
                        refine WGuard_pure (v := .d (.bool a0.hTML)) (fun hb141 => by (simp only [go_sem, hc3, hc7, hc12, hc15, hc18, hc107, hc109, hc112, hc114, hb141]; done)) ?_
                        try simp only [go_sem]
                        refine WBr_split (fun hc134 => ?_) (fun hc135 => ?_)
                        · rw [if_pos hc134] at h
                          try simp only [go_sem]
                          cases h
                          exact ⟨rfl, Up.of (N := 77) (N' := 101) [] rfl rfl (by decide) (.set (.d _) RegsR.none) BlksR.at⟩
                        · rw [if_neg (ff hc135)] at h
                          try simp only [go_sem]
                          refine WGuard_pure (v := .ptr 0 0 8) (fun hb140 => by (simp only [go_sem, hc3, hc7, hc12, hc15, hc18, hc107, hc109, hc112, hc114, hc135, hb140]; done)) ?_
                          try simp only [go_sem]
                          refine WGuard_pure (v := .d (.int .i64 a0.parent)) (fun hb139 => by (simp only [go_sem, hc3, hc7, hc12, hc15, hc18, hc107, hc109, hc112, hc114, hc135, hb139]; done)) ?_
                          try simp only [go_sem]
                          refine WGuard_pure (v := .d (.bool (!(a0.parent == 0)))) (fun hb138 => by (simp only [go_sem, hc3, hc7, hc12, hc15, hc18, hc107, hc109, hc112, hc114, hc135, hb138]; done)) ?_
                          try simp only [go_sem]
                          refine WBr_split (fun hc136 => ?_) (fun hc137 => ?_)
                          · rw [if_pos hc136] at h
                            try simp only [go_sem]
                            cases h
                            exact ⟨rfl, Up.of (N := 77) (N' := 110) [] rfl rfl (by decide) (.set (.d _) RegsR.none) BlksR.at⟩
                          · rw [if_neg (ff hc137)] at h
                            try simp only [go_sem]
                            cases h
                            exact ⟨rfl, Up.of (N := 77) (N' := 109) [] rfl rfl (by decide) (.set (.ptr' rfl) RegsR.none) (.set BlkR.refl_d BlksR.at)⟩
                  · rcases r157 with (q159 | q160)
                    · dsimp only at h ⊢
                      cases h
                      exact ⟨rfl, Up.of (N := 27) (N' := 77) [] rfl rfl (by decide) (.set (.ptr' rfl) RegsR.none) (.set BlkR.refl_d BlksR.at)⟩
                    · dsimp only at h ⊢
                      cases h
                      exact ⟨rfl, Up.of (N := 27) (N' := 77) [] rfl rfl (by decide) (.set (.d _) RegsR.none) BlksR.at⟩
                · rw [if_neg (ffn hc110)] at h
                  try simp only [go_sem, hc110]
                  cases h
                  exact ⟨rfl, Up.of (N := 27) (N' := 78) [] rfl rfl (by decide) (.set (.d _) RegsR.none) BlksR.at⟩
              · rw [if_neg (ffn hc108)] at h
                try simp only [go_sem, hc108]
                cases h
                exact ⟨rfl, Up.of (N := 27) (N' := 78) [] rfl rfl (by decide) (.set (.d _) RegsR.none) BlksR.at⟩
          · rw [if_neg (ff hc16)] at h
            try simp only [go_sem, hc16]
            try simp only [go_sem, hc3, hc7, hc12, hc16]
            cases h
            exact ⟨rfl, Up.of (N := 27) (N' := 51) [] rfl rfl (by decide) (.set (.d _) RegsR.none) BlksR.at⟩
      · rcases r224 with (q226 | q238)
        · dsimp only at h ⊢
          try simp only [go_sem]
          refine WBr_split (fun hc227 => ?_) (fun hc228 => ?_)
          · rw [if_pos hc227] at h
            try simp only [go_sem]
            refine WGuard_pure (v := .ptr 0 0 13) (fun hb231 => by (simp only [go_sem, hc3, hc7, hc227, hb231]; done)) ?_
            try simp only [go_sem]
            refine WGuard_pure (v := .d (.int .u8 a0.mode)) (fun hb230 => by (simp only [go_sem, hc3, hc7, hc227, hb230]; done)) ?_
            try simp only [go_sem]
            refine WGuard_pure (v := .d (.bool (a0.mode == 2))) (fun hb229 => by (simp only [go_sem, hc3, hc7, hc227, hb229]; done)) ?_
            try simp only [go_sem]
            cases h
            rfl
          · rw [if_neg (ff hc228)] at h
            try simp only [go_sem]
            refine WGuard_pure (v := .ptr 0 0 14) (fun hb237 => by (simp only [go_sem, hc3, hc7, hc228, hb237]; done)) ?_
            try simp only [go_sem]
            refine WGuard_pure (v := .d (.bool a0.manual)) (fun hb236 => by (simp only [go_sem, hc3, hc7, hc228, hb236]; done)) ?_
            try simp only [go_sem]
            refine WGuard_pure (v := .d (.bool (!a0.manual))) (fun hb235 => by (simp only [go_sem, hc3, hc7, hc228, hb235]; done)) ?_
            try simp only [go_sem]
            refine WGuard_pure (v := .ptr 0 0 11) (fun hb234 => by (simp only [go_sem, hc3, hc7, hc228, hb234]; done)) ?_
            try simp only [go_sem]
            refine WGuard_pure (v := .d (.int .i64 a0.host)) (fun hb233 => by (simp only [go_sem, hc3, hc7, hc228, hb233]; done)) ?_
            try simp only [go_sem]
            refine WGuard_pure (v := .d (.bool (a0.host == 0))) (fun hb232 => by (simp only [go_sem, hc3, hc7, hc228, hb232]; done)) ?_
            try simp only [go_sem]
            cases h
            rfl
        · dsimp only at h ⊢
          try simp only [go_sem]
          cases h
          rfl
    · rw [if_neg (ff hc8)] at h
      try simp only [go_sem, hc8]
      cases h
      rfl
  · rw [if_neg (ff hc4)] at h
    try simp only [go_sem, hc4]
    cases h
    rfl
noncomputable def P193 (a0 : Forest) (a1 : Int) : Option (Bool) :=
  (rd a0.nodes.l (IntKind.wrap .i64 (a1 - 1))).bind fun y1 =>
  (if (!(y1.parent == 0)) = true then
    (dec (eT2 eNode D.bool) (pc prog 219 [eForest a0, .int .i64 y1.parent])).bind fun r5 =>
    if r5.2 = true then
      (dec D.bool (pc prog 220 [.list r5.1.kids.n (r5.1.kids.l.map (D.int .i64)), .int .i64 a1])).bind fun r9 =>
      if (!r9) = true then
        some (.inr ())
      else
        some (.inl ())
    else
      some (.inr ())
  else
    some (.inl ()) : Option ((Unit) ⊕ (Unit))).bind fun r16 =>
  match r16 with
  | (.inl q18) =>
    (dec (D.int .u8) (pc prog 221 [eForest a0, .int .i64 y1.doc])).bind fun r19 =>
    if (r19 == 9) = true then
      if (bif (y1.kind == 9) then (!(y1.doc == a1)) else false) = true then
        some false
      else
        (if (!(y1.shadow == 0)) = true then
          (dec (eT2 eNode D.bool) (pc prog 219 [eForest a0, .int .i64 y1.shadow])).bind fun r27 =>
          if (bif (bif (!r27.2) then true else (!(r27.1.kind == 12))) then true else (!(r27.1.host == a1))) = true then
            some (.inr ())
          else
            some (.inl ())
        else
          some (.inl ()) : Option ((Unit) ⊕ (Unit))).bind fun r38 =>
        match r38 with
        | (.inl q40) =>
          if (y1.kind == 12) = true then
            (dec (eT2 eNode D.bool) (pc prog 219 [eForest a0, .int .i64 y1.host])).bind fun r43 =>
            if (bif (bif (bif (!r43.2) then true else (!(r43.1.kind == 1))) then true else (!(r43.1.shadow == a1))) then true else (!(r43.1.doc == y1.doc))) = true then
              some false
            else
              (dec D.bool (pc prog 222 [eForest a0, .int .i64 a1, eNode y1])).bind fun r47 =>
              some r47
          else
            (dec D.bool (pc prog 222 [eForest a0, .int .i64 a1, eNode y1])).bind fun r61 =>
            some r61
        | (.inr q63) =>
          some false
    else
      some false
  | (.inr q80) =>
    some false
theorem ok193 (a0 : Forest) (a1 : Int) (r : Bool) (h : P193 a0 a1 = some r) : pc prog 193 [eForest a0, .int .i64 a1] = some (D.bool r) := by
  unfold P193 at h
  refine pc_of (fn := c193) rfl rfl ?_
  delta c193
  try simp only [go_sem]
  obtain ⟨y1, hy2, h⟩ := bs h
  try simp only [go_sem, rd_pos hy2, rd_ge hy2, rd_map eNode hy2]
  obtain ⟨r16, hl17, h⟩ := bs h
  refine WBr.cut (n := 0) ((fun r => match r with   | (.inl r) => (.normal, ⟨(((Regs.none.set 1 (.d (.int .i64 a1))).set 2 (.ptr 0 0 0)).set 5 (.ptr 8 0 0)), (((Heap.at 13).set 0 (some (.els 1 [.d (eForest a0)] 0))).set 8 (some (.els 16 [.d (eNode y1)] 0)))⟩)   | (.inr r) => (.ret, ⟨(Regs.none.set 4 (.d (.bool false))), (Heap.at 13)⟩) : ((Unit) ⊕ (Unit)) → Ex × St) r16).1 ((fun r => match r with   | (.inl r) => (.normal, ⟨(((Regs.none.set 1 (.d (.int .i64 a1))).set 2 (.ptr 0 0 0)).set 5 (.ptr 8 0 0)), (((Heap.at 13).set 0 (some (.els 1 [.d (eForest a0)] 0))).set 8 (some (.els 16 [.d (eNode y1)] 0)))⟩)   | (.inr r) => (.ret, ⟨(Regs.none.set 4 (.d (.bool false))), (Heap.at 13)⟩) : ((Unit) ⊕ (Unit)) → Ex × St) r16).2 ?_ (by (repeat (refine Clo.seq locs rfl ?_)); (exact Clo.ret)) ?_
  · replace h := hl17
    refine WBr_splitN (fun hc3 => ?_) (fun hc4 => ?_)
    · rw [if_pos (show (!(y1.parent == 0)) = true by (rw [hc3]; rfl))] at h
      try simp only [go_sem, rd_pos hy2, rd_ge hy2, rd_map eNode hy2]
      obtain ⟨r5, hr6, h⟩ := bs h
      replace hr6 := dec_some hr6
      refine WVal_pc hr6 ?_
      try simp only [go_sem, rd_pos hy2, rd_ge hy2, rd_map eNode hy2]
      refine WGuard_pure (v := .ptr 20 0 9) (fun hb15 => by (simp only [go_sem, rd_pos hy2, rd_ge hy2, rd_map eNode hy2, hc3, hb15]; done)) ?_
      try simp only [go_sem, rd_pos hy2, rd_ge hy2, rd_map eNode hy2]
      refine WGuard_pure (v := .d (.list r5.1.kids.n (r5.1.kids.l.map (D.int .i64)))) (fun hb14 => by (simp only [go_sem, rd_pos hy2, rd_ge hy2, rd_map eNode hy2, hc3, hb14]; done)) ?_
      try simp only [go_sem, rd_pos hy2, rd_ge hy2, rd_map eNode hy2]
      refine WGuard_pure (v := .d (.int .i64 a1)) (fun hb13 => by (simp only [go_sem, rd_pos hy2, rd_ge hy2, rd_map eNode hy2, hc3, hb13]; done)) ?_
      try simp only [go_sem, rd_pos hy2, rd_ge hy2, rd_map eNode hy2]
      refine WGuard_split (fun hc7 => ?_) (fun hc8 => ?_)
      · rw [if_pos hc7] at h
        try simp only [go_sem, rd_pos hy2, rd_ge hy2, rd_map eNode hy2, hc7]
        obtain ⟨r9, hr10, h⟩ := bs h
        replace hr10 := dec_some hr10
        refine WVal_pc hr10 ?_
        try simp only [go_sem, rd_pos hy2, rd_ge hy2, rd_map eNode hy2]
        refine WBr_splitN (fun hc11 => ?_) (fun hc12 => ?_)
        · rw [if_pos (show (!r9) = true by (rw [hc11]; rfl))] at h
          try simp only [go_sem, rd_pos hy2, rd_ge hy2, rd_map eNode hy2]
          cases h
          exact ⟨rfl, Up.of (N := 13) (N' := 33) [] rfl rfl (by decide) (.set (.d _) RegsR.none) BlksR.at⟩
        · rw [if_neg (ffn hc12)] at h
          try simp only [go_sem, rd_pos hy2, rd_ge hy2, rd_map eNode hy2]
          cases h
          exact ⟨rfl, Up.of (N := 13) (N' := 32) [] rfl rfl (by decide) (.set (.ptr' rfl) (.set (.ptr' rfl) (.set (.d _) RegsR.none))) (.set BlkR.refl_d (.set BlkR.refl_d BlksR.at))⟩
      · rw [if_neg (ff hc8)] at h
        try simp only [go_sem, rd_pos hy2, rd_ge hy2, rd_map eNode hy2, hc8]
        cases h
        exact ⟨rfl, Up.of (N := 13) (N' := 33) [] rfl rfl (by decide) (.set (.d _) RegsR.none) BlksR.at⟩
    · rw [if_neg (ffn hc4)] at h
      try simp only [go_sem, rd_pos hy2, rd_ge hy2, rd_map eNode hy2]
      cases h
      exact ⟨rfl, Up.of (N := 13) (N' := 13) [] rfl rfl (by decide) (.set (.ptr' rfl) (.set (.ptr' rfl) (.set (.d _) RegsR.none))) (.set BlkR.refl_d (.set BlkR.refl_d BlksR.at))⟩
  · rcases r16 with (q18 | q80)
    · dsimp only at h ⊢
      try simp only [go_sem, rd_pos hy2, rd_ge hy2, rd_map eNode hy2]
      obtain ⟨r19, hr20, h⟩ := bs h
      replace hr20 := dec_some hr20
      refine WVal_pc hr20 ?_
      try simp only [go_sem, rd_pos hy2, rd_ge hy2, rd_map eNode hy2]
      refine WGuard_pure (v := .ptr 8 0 0) (fun hb79 => by (simp only [go_sem, rd_pos hy2, rd_ge hy2, rd_map eNode hy2, hb79]; done)) ?_
      try simp only [go_sem, rd_pos hy2, rd_ge hy2, rd_map eNode hy2]
      refine WGuard_pure (v := .d (.int .u8 y1.kind)) (fun hb78 => by (simp only [go_sem, rd_pos hy2, rd_ge hy2, rd_map eNode hy2, hb78]; done)) ?_
      try simp only [go_sem, rd_pos hy2, rd_ge hy2, rd_map eNode hy2]
      refine WGuard_pure (v := .d (.bool (y1.kind == 9))) (fun hb77 => by (simp only [go_sem, rd_pos hy2, rd_ge hy2, rd_map eNode hy2, hb77]; done)) ?_
      try simp only [go_sem, rd_pos hy2, rd_ge hy2, rd_map eNode hy2]
      refine WGuard_pure (v := .d (.bool (y1.kind == 9))) (fun hb76 => by (simp only [go_sem, rd_pos hy2, rd_ge hy2, rd_map eNode hy2, hb76]; done)) ?_
      try simp only [go_sem, rd_pos hy2, rd_ge hy2, rd_map eNode hy2]
      refine WGuard_pure (v := .ptr 8 0 10) (fun hb73 => by ((obtain ⟨hb74, hb75⟩ := bif_true hb73)); (simp only [go_sem, rd_pos hy2, rd_ge hy2, rd_map eNode hy2, hb75, hb74]; done)) ?_
      try simp only [go_sem, rd_pos hy2, rd_ge hy2, rd_map eNode hy2]
      refine WGuard_pure (v := .d (.int .i64 y1.doc)) (fun hb70 => by ((obtain ⟨hb71, hb72⟩ := bif_true hb70)); (simp only [go_sem, rd_pos hy2, rd_ge hy2, rd_map eNode hy2, hb72, hb71]; done)) ?_
      try simp only [go_sem, rd_pos hy2, rd_ge hy2, rd_map eNode hy2]
      refine WGuard_pure (v := .d (.int .i64 a1)) (fun hb67 => by ((obtain ⟨hb68, hb69⟩ := bif_true hb67)); (simp only [go_sem, rd_pos hy2, rd_ge hy2, rd_map eNode hy2, hb69, hb68]; done)) ?_
      try simp only [go_sem, rd_pos hy2, rd_ge hy2, rd_map eNode hy2]
      refine WGuard_pure (v := .d (.bool (!(y1.doc == a1)))) (fun hb64 => by ((obtain ⟨hb65, hb66⟩ := bif_true hb64)); (simp only [go_sem, rd_pos hy2, rd_ge hy2, rd_map eNode hy2, hb66, hb65]; done)) ?_
      try simp only [go_sem, rd_pos hy2, rd_ge hy2, rd_map eNode hy2]
      refine WGuard_split (fun hc21 => ?_) (fun hc22 => ?_)
      · rw [if_pos hc21] at h
        try simp only [go_sem, rd_pos hy2, rd_ge hy2, rd_map eNode hy2, hc21]
        refine WBr_split (fun hc23 => ?_) (fun hc24 => ?_)
        · rw [if_pos hc23] at h
          try simp only [go_sem, rd_pos hy2, rd_ge hy2, rd_map eNode hy2]
          cases h
          rfl
        · rw [if_neg (ff hc24)] at h
          try simp only [go_sem, rd_pos hy2, rd_ge hy2, rd_map eNode hy2]
          obtain ⟨r38, hl39, h⟩ := bs h
          refine WBr.cut (n := 0) ((fun r => match r with   | (.inl r) => (.normal, ⟨(((Regs.none.set 1 (.d (.int .i64 a1))).set 2 (.ptr 0 0 0)).set 5 (.ptr 8 0 0)), (((Heap.at 32).set 0 (some (.els 1 [.d (eForest a0)] 0))).set 8 (some (.els 16 [.d (eNode y1)] 0)))⟩)   | (.inr r) => (.ret, ⟨(Regs.none.set 4 (.d (.bool false))), (Heap.at 32)⟩) : ((Unit) ⊕ (Unit)) → Ex × St) r38).1 ((fun r => match r with   | (.inl r) => (.normal, ⟨(((Regs.none.set 1 (.d (.int .i64 a1))).set 2 (.ptr 0 0 0)).set 5 (.ptr 8 0 0)), (((Heap.at 32).set 0 (some (.els 1 [.d (eForest a0)] 0))).set 8 (some (.els 16 [.d (eNode y1)] 0)))⟩)   | (.inr r) => (.ret, ⟨(Regs.none.set 4 (.d (.bool false))), (Heap.at 32)⟩) : ((Unit) ⊕ (Unit)) → Ex × St) r38).2 ?_ (by (repeat (refine Clo.seq locs rfl ?_)); (exact Clo.ret)) ?_
          · replace h := hl39
            refine WBr_splitN (fun hc25 => ?_) (fun hc26 => ?_)
            · rw [if_pos (show (!(y1.shadow == 0)) = true by (rw [hc25]; rfl))] at h
              try simp only [go_sem, rd_pos hy2, rd_ge hy2, rd_map eNode hy2]
              obtain ⟨r27, hr28, h⟩ := bs h
              replace hr28 := dec_some hr28
              refine WVal_pc hr28 ?_
              try simp only [go_sem, rd_pos hy2, rd_ge hy2, rd_map eNode hy2]
              refine WGuard_pure (v := .ptr 39 0 0) (fun hb37 => by (simp only [go_sem, rd_pos hy2, rd_ge hy2, rd_map eNode hy2, hc21, hc24, hc25, hb37]; done)) ?_
              try simp only [go_sem, rd_pos hy2, rd_ge hy2, rd_map eNode hy2]
              refine WGuard_pure (v := .d (.int .u8 r27.1.kind)) (fun hb36 => by (simp only [go_sem, rd_pos hy2, rd_ge hy2, rd_map eNode hy2, hc21, hc24, hc25, hb36]; done)) ?_
              try simp only [go_sem, rd_pos hy2, rd_ge hy2, rd_map eNode hy2]
              refine WGuard_pure (v := .d (.bool (!(r27.1.kind == 12)))) (fun hb35 => by (simp only [go_sem, rd_pos hy2, rd_ge hy2, rd_map eNode hy2, hc21, hc24, hc25, hb35]; done)) ?_
              try simp only [go_sem, rd_pos hy2, rd_ge hy2, rd_map eNode hy2]
              refine WGuard_pure (v := .ptr 39 0 11) (fun hb34 => by (simp only [go_sem, rd_pos hy2, rd_ge hy2, rd_map eNode hy2, hc21, hc24, hc25, hb34]; done)) ?_
              try simp only [go_sem, rd_pos hy2, rd_ge hy2, rd_map eNode hy2]
              refine WGuard_pure (v := .d (.int .i64 r27.1.host)) (fun hb33 => by (simp only [go_sem, rd_pos hy2, rd_ge hy2, rd_map eNode hy2, hc21, hc24, hc25, hb33]; done)) ?_
              try simp only [go_sem, rd_pos hy2, rd_ge hy2, rd_map eNode hy2]
              refine WGuard_pure (v := .d (.int .i64 a1)) (fun hb32 => by (simp only [go_sem, rd_pos hy2, rd_ge hy2, rd_map eNode hy2, hc21, hc24, hc25, hb32]; done)) ?_
              try simp only [go_sem, rd_pos hy2, rd_ge hy2, rd_map eNode hy2]
              refine WGuard_pure (v := .d (.bool (!(r27.1.host == a1)))) (fun hb31 => by (simp only [go_sem, rd_pos hy2, rd_ge hy2, rd_map eNode hy2, hc21, hc24, hc25, hb31]; done)) ?_
              try simp only [go_sem, rd_pos hy2, rd_ge hy2, rd_map eNode hy2]
              refine WBr_split (fun hc29 => ?_) (fun hc30 => ?_)
              · rw [if_pos hc29] at h
                try simp only [go_sem, rd_pos hy2, rd_ge hy2, rd_map eNode hy2]
                cases h
                exact ⟨rfl, Up.of (N := 32) (N' := 56) [] rfl rfl (by decide) (.set (.d _) RegsR.none) BlksR.at⟩
              · rw [if_neg (ff hc30)] at h
                try simp only [go_sem, rd_pos hy2, rd_ge hy2, rd_map eNode hy2]
                cases h
                exact ⟨rfl, Up.of (N := 32) (N' := 55) [] rfl rfl (by decide) (.set (.ptr' rfl) (.set (.ptr' rfl) (.set (.d _) RegsR.none))) (.set BlkR.refl_d (.set BlkR.refl_d BlksR.at))⟩
            · rw [if_neg (ffn hc26)] at h
              try simp only [go_sem, rd_pos hy2, rd_ge hy2, rd_map eNode hy2]
              cases h
              exact ⟨rfl, Up.of (N := 32) (N' := 32) [] rfl rfl (by decide) (.set (.ptr' rfl) (.set (.ptr' rfl) (.set (.d _) RegsR.none))) (.set BlkR.refl_d (.set BlkR.refl_d BlksR.at))⟩
          · rcases r38 with (q40 | q63)
            · dsimp only at h ⊢
              try simp only [go_sem, rd_pos hy2, rd_ge hy2, rd_map eNode hy2]
              refine WBr_split (fun hc41 => ?_) (fun hc42 => ?_)
              · rw [if_pos hc41] at h
                try simp only [go_sem, rd_pos hy2, rd_ge hy2, rd_map eNode hy2]
                obtain ⟨r43, hr44, h⟩ := bs h
                replace hr44 := dec_some hr44
                refine WVal_pc hr44 ?_
                try simp only [go_sem, rd_pos hy2, rd_ge hy2, rd_map eNode hy2]
                refine WGuard_pure (v := .ptr 42 0 0) (fun hb60 => by (simp only [go_sem, rd_pos hy2, rd_ge hy2, rd_map eNode hy2, hc21, hc24, hc41, hb60]; done)) ?_
                try simp only [go_sem, rd_pos hy2, rd_ge hy2, rd_map eNode hy2]
                refine WGuard_pure (v := .d (.int .u8 r43.1.kind)) (fun hb59 => by (simp only [go_sem, rd_pos hy2, rd_ge hy2, rd_map eNode hy2, hc21, hc24, hc41, hb59]; done)) ?_
                try simp only [go_sem, rd_pos hy2, rd_ge hy2, rd_map eNode hy2]
                refine WGuard_pure (v := .d (.bool (!(r43.1.kind == 1)))) (fun hb58 => by (simp only [go_sem, rd_pos hy2, rd_ge hy2, rd_map eNode hy2, hc21, hc24, hc41, hb58]; done)) ?_
                try simp only [go_sem, rd_pos hy2, rd_ge hy2, rd_map eNode hy2]
                refine WGuard_pure (v := .ptr 42 0 12) (fun hb57 => by (simp only [go_sem, rd_pos hy2, rd_ge hy2, rd_map eNode hy2, hc21, hc24, hc41, hb57]; done)) ?_
                try simp only [go_sem, rd_pos hy2, rd_ge hy2, rd_map eNode hy2]
                refine WGuard_pure (v := .d (.int .i64 r43.1.shadow)) (fun hb56 => by (simp only [go_sem, rd_pos hy2, rd_ge hy2, rd_map eNode hy2, hc21, hc24, hc41, hb56]; done)) ?_
                try simp only [go_sem, rd_pos hy2, rd_ge hy2, rd_map eNode hy2]
                refine WGuard_pure (v := .d (.int .i64 a1)) (fun hb55 => by (simp only [go_sem, rd_pos hy2, rd_ge hy2, rd_map eNode hy2, hc21, hc24, hc41, hb55]; done)) ?_
                try simp only [go_sem, rd_pos hy2, rd_ge hy2, rd_map eNode hy2]
                refine WGuard_pure (v := .d (.bool (!(r43.1.shadow == a1)))) (fun hb54 => by (simp only [go_sem, rd_pos hy2, rd_ge hy2, rd_map eNode hy2, hc21, hc24, hc41, hb54]; done)) ?_
                try simp only [go_sem, rd_pos hy2, rd_ge hy2, rd_map eNode hy2]
                refine WGuard_pure (v := .ptr 42 0 10) (fun hb53 => by (simp only [go_sem, rd_pos hy2, rd_ge hy2, rd_map eNode hy2, hc21, hc24, hc41, hb53]; done)) ?_
                try simp only [go_sem, rd_pos hy2, rd_ge hy2, rd_map eNode hy2]
                refine WGuard_pure (v := .d (.int .i64 r43.1.doc)) (fun hb52 => by (simp only [go_sem, rd_pos hy2, rd_ge hy2, rd_map eNode hy2, hc21, hc24, hc41, hb52]; done)) ?_
                try simp only [go_sem, rd_pos hy2, rd_ge hy2, rd_map eNode hy2]
                refine WGuard_pure (v := .ptr 8 0 10) (fun hb51 => by (simp only [go_sem, rd_pos hy2, rd_ge hy2, rd_map eNode hy2, hc21, hc24, hc41, hb51]; done)) ?_
                try simp only [go_sem, rd_pos hy2, rd_ge hy2, rd_map eNode hy2]
                refine WGuard_pure (v := .d (.int .i64 y1.doc)) (fun hb50 => by (simp only [go_sem, rd_pos hy2, rd_ge hy2, rd_map eNode hy2, hc21, hc24, hc41, hb50]; done)) ?_
                try simp only [go_sem, rd_pos hy2, rd_ge hy2, rd_map eNode hy2]
                refine WGuard_pure (v := .d (.bool (!(r43.1.doc == y1.doc)))) (fun hb49 => by (simp only [go_sem, rd_pos hy2, rd_ge hy2, rd_map eNode hy2, hc21, hc24, hc41, hb49]; done)) ?_
                try simp only [go_sem, rd_pos hy2, rd_ge hy2, rd_map eNode hy2]
                refine WBr_split (fun hc45 => ?_) (fun hc46 => ?_)
                · rw [if_pos hc45] at h
                  try simp only [go_sem, rd_pos hy2, rd_ge hy2, rd_map eNode hy2]
                  cases h
                  rfl
                · rw [if_neg (ff hc46)] at h
                  try simp only [go_sem, rd_pos hy2, rd_ge hy2, rd_map eNode hy2]
                  obtain ⟨r47, hr48, h⟩ := bs h
                  replace hr48 := dec_some hr48
                  refine WVal_pc hr48 ?_
                  try simp only [go_sem, rd_pos hy2, rd_ge hy2, rd_map eNode hy2]
                  cases h
                  rfl
              · rw [if_neg (ff hc42)] at h
                try simp only [go_sem, rd_pos hy2, rd_ge hy2, rd_map eNode hy2]
                obtain ⟨r61, hr62, h⟩ := bs h
                replace hr62 := dec_some hr62
                refine WVal_pc hr62 ?_
                try simp only [go_sem, rd_pos hy2, rd_ge hy2, rd_map eNode hy2]
                cases h
                rfl
            · dsimp only at h ⊢
              try simp only [go_sem, rd_pos hy2, rd_ge hy2, rd_map eNode hy2]
              cases h
              rfl
      · rw [if_neg (ff hc22)] at h
        try simp only [go_sem, rd_pos hy2, rd_ge hy2, rd_map eNode hy2, hc22]
        cases h
        rfl
    · dsimp only at h ⊢
      try simp only [go_sem, rd_pos hy2, rd_ge hy2, rd_map eNode hy2]
      cases h
      rfl
noncomputable def P213 (a0 : Int) : Option (Bool) :=
  some (!(a0 == a0))
theorem ok213 (a0 : Int) (r : Bool) (h : P213 a0 = some r) : pc prog 213 [.int .i64 a0] = some (D.bool r) := by
  unfold P213 at h
  refine pc_of (fn := c213) rfl rfl ?_
  delta c213
  try simp only [go_sem]
  cases h
  rfl
noncomputable def P214 (a0 : Node) : Option (Int) :=
  if (a0.kind == 12) = true then
    some a0.host
  else
    some a0.parent
theorem ok214 (a0 : Node) (r : Int) (h : P214 a0 = some r) : pc prog 214 [eNode a0] = some ((D.int .i64) r) := by
  unfold P214 at h
  refine pc_of (fn := c214) rfl rfl ?_
  delta c214
  try simp only [go_sem]
  refine WBr_split (fun hc1 => ?_) (fun hc2 => ?_)
  · rw [if_pos hc1] at h
    try simp only [go_sem]
    cases h
    rfl
  · rw [if_neg (ff hc2)] at h
    try simp only [go_sem]
    cases h
    rfl
noncomputable def P215 (a0 : Int) : Option (forest_trait) :=
  if (a0 == 1) = true then
    some (⟨true, false, true, true, true, false⟩ : forest_trait)
  else
    (if (a0 == 3) = true then
      some (a0 == 3)
    else
      (if (a0 == 4) = true then
        some (a0 == 4)
      else
        some (a0 == 8) : Option ((Bool))).bind fun r7 =>
      some r7 : Option ((Bool))).bind fun r9 =>
    if r9 = true then
      some (⟨true, true, false, true, false, false⟩ : forest_trait)
    else
      if (a0 == 7) = true then
        some (⟨true, true, false, true, false, true⟩ : forest_trait)
      else
        if (a0 == 10) = true then
          some (⟨true, false, false, true, false, true⟩ : forest_trait)
        else
          if (a0 == 9) = true then
            some (⟨true, false, true, false, false, false⟩ : forest_trait)
          else
            if (a0 == 11) = true then
              some (⟨true, false, true, false, false, false⟩ : forest_trait)
            else
              if (a0 == 12) = true then
                some (⟨true, false, true, false, false, false⟩ : forest_trait)
              else
                some (⟨false, false, false, false, false, false⟩ : forest_trait)
theorem ok215 (a0 : Int) (r : forest_trait) (h : P215 a0 = some r) : pc prog 215 [.int .u8 a0] = some (eforest_trait r) := by
  unfold P215 at h
  refine pc_of (fn := c215) rfl rfl ?_
  delta c215
  try simp only [go_sem]
  refine WBr_split (fun hc1 => ?_) (fun hc2 => ?_)
  · rw [if_pos hc1] at h
    try simp only [go_sem]
    cases h
    rfl
  · rw [if_neg (ff hc2)] at h
    try simp only [go_sem]
    obtain ⟨r9, hl10, h⟩ := bs h
    refine WBr.cut (n := 0) .normal ⟨(((Regs.none.set 2 (.ptr 0 0 0)).set 3 (.d (.int .u8 a0))).set 7 (.d (.bool r9))), ((Heap.at 6).set 0 (some (.els 6 [.d (.agg [.bool false, .bool false, .bool false, .bool false, .bool false, .bool false])] 0)))⟩ ?_ (by (repeat (first | refine Clo.block ?_ | refine Clo.seq locs rfl ?_)); (exact Clo.ret)) ?_
    · replace h := hl10
      refine WBr_split (fun hc3 => ?_) (fun hc4 => ?_)
      · rw [if_pos hc3] at h
        try simp only [go_sem]
        cases h
        exact ⟨rfl, Up.of (N := 6) (N' := 6) [] rfl rfl (by decide) (.set (.d _) (.set (.d _) (.set (.ptr' rfl) RegsR.none))) (.set BlkR.refl_d BlksR.at)⟩
      · rw [if_neg (ff hc4)] at h
        try simp only [go_sem]
        obtain ⟨r7, hl8, h⟩ := bs h
        refine WBr.cut (n := 0) .normal ⟨(((Regs.none.set 2 (.ptr 0 0 0)).set 3 (.d (.int .u8 a0))).set 7 (.d (.bool r7))), ((Heap.at 8).set 0 (some (.els 6 [.d (.agg [.bool false, .bool false, .bool false, .bool false, .bool false, .bool false])] 0)))⟩ ?_ (by (repeat (first | refine Clo.block ?_ | refine Clo.seq locs rfl ?_)); (exact Clo.cpost)) ?_
        · replace h := hl8
          refine WBr_split (fun hc5 => ?_) (fun hc6 => ?_)
          · rw [if_pos hc5] at h
            try simp only [go_sem]
            cases h
            exact ⟨rfl, Up.of (N := 8) (N' := 8) [] rfl rfl (by decide) (.set (.d _) (.set (.d _) (.set (.ptr' rfl) RegsR.none))) (.set BlkR.refl_d BlksR.at)⟩
          · rw [if_neg (ff hc6)] at h
            try simp only [go_sem]
            cases h
            exact ⟨rfl, Up.of (N := 8) (N' := 10) [] rfl rfl (by decide) (.set (.d _) (.set (.d _) (.set (.ptr' rfl) RegsR.none))) (.set BlkR.refl_d BlksR.at)⟩
        · skip
          cases h
          exact ⟨rfl, Up.of (N := 6) (N' := 8) [] rfl rfl (by decide) (.set (.d _) (.set (.d _) (.set (.ptr' rfl) RegsR.none))) (.set BlkR.refl_d BlksR.at)⟩
    · try simp only [go_sem]
      refine WBr_split (fun hc11 => ?_) (fun hc12 => ?_)
      · rw [if_pos hc11] at h
        try simp only [go_sem]
        cases h
        rfl
      · rw [if_neg (ff hc12)] at h
        try simp only [go_sem]
        refine WBr_split (fun hc13 => ?_) (fun hc14 => ?_)
        · rw [if_pos hc13] at h
          try simp only [go_sem]
          cases h
          rfl
        · rw [if_neg (ff hc14)] at h
          try simp only [go_sem]
          refine WBr_split (fun hc15 => ?_) (fun hc16 => ?_)
          · rw [if_pos hc15] at h
            try simp only [go_sem]
            cases h
            rfl
          · rw [if_neg (ff hc16)] at h
            try simp only [go_sem]
            refine WBr_split (fun hc17 => ?_) (fun hc18 => ?_)
            · rw [if_pos hc17] at h
              try simp only [go_sem]
              try simp only [go_sem, hc2, hc12, hc14, hc16, hc17]
              cases h
              rfl
            · rw [if_neg (ff hc18)] at h
              try simp only [go_sem]
              refine WBr_split (fun hc19 => ?_) (fun hc20 => ?_)
              · rw [if_pos hc19] at h
                try simp only [go_sem]
                try simp only [go_sem, hc2, hc12, hc14, hc16, hc18, hc19]
                cases h
                rfl
              · rw [if_neg (ff hc20)] at h
                try simp only [go_sem]
                refine WBr_split (fun hc21 => ?_) (fun hc22 => ?_)
                · rw [if_pos hc21] at h
                  try simp only [go_sem]
                  cases h
                  rfl
                · rw [if_neg (ff hc22)] at h
                  try simp only [go_sem]
                  cases h
                  rfl
noncomputable def P216 (a0 : Node) (a1 : forest_trait) : Option (Bool) :=
  if a1.full = true then
    (dec D.bool (pc prog 229 [eName a0.name])).bind fun r3 =>
    some r3
  else
    if a1.local_ = true then
      if (!(a0.name.local_ == [])) = true then
        (dec D.bool (pc prog 218 [.list false (([a0.name.local_]).map D.str)])).bind fun r9 =>
        if r9 = true then
          some (decide (a0.name = (⟨[], [], a0.name.local_⟩ : Name)))
        else
          some false
      else
        some false
    else
      some (decide (a0.name = (⟨[], [], []⟩ : Name)))
theorem ok216 (a0 : Node) (a1 : forest_trait) (r : Bool) (h : P216 a0 a1 = some r) : pc prog 216 [eNode a0, eforest_trait a1] = some (D.bool r) := by
  unfold P216 at h
  refine pc_of (fn := c216) rfl rfl ?_
  delta c216
  try simp only [go_sem]
  refine WBr_split (fun hc1 => ?_) (fun hc2 => ?_)
  · rw [if_pos hc1] at h
    try simp only [go_sem]
    obtain ⟨r3, hr4, h⟩ := bs h
    replace hr4 := dec_some hr4
    refine WVal_pc hr4 ?_
    try simp only [go_sem]
    cases h
    rfl
  · rw [if_neg (ff hc2)] at h
    try simp only [go_sem]
    refine WBr_split (fun hc5 => ?_) (fun hc6 => ?_)
    · rw [if_pos hc5] at h
      try simp only [go_sem]
      refine WGuard_pure (v := .ptr 0 0 1) (fun hb20 => by (simp only [go_sem, hc2, hc5, hb20]; done)) ?_
      try simp only [go_sem]
      refine WGuard_pure (v := .ptr 0 0 3) (fun hb19 => by (simp only [go_sem, hc2, hc5, hb19]; done)) ?_
      try simp only [go_sem]
      refine WGuard_pure (v := .d (.str a0.name.local_)) (fun hb18 => by (simp only [go_sem, hc2, hc5, hb18]; done)) ?_
      try simp only [go_sem]
      refine WGuard_splitN (fun hc7 => ?_) (fun hc8 => ?_)
      · rw [if_pos (show (!(a0.name.local_ == [])) = true by (rw [hc7]; rfl))] at h
        try simp only [go_sem, hc7]
        obtain ⟨r9, hr10, h⟩ := bs h
        replace hr10 := dec_some hr10
        refine WVal_pc hr10 ?_
        try simp only [go_sem]
        refine WGuard_pure (v := .ptr 0 0 1) (fun hb17 => by (simp only [go_sem, hc2, hc5, hc7, hb17]; done)) ?_
        try simp only [go_sem]
        refine WGuard_pure (v := .d (eName a0.name)) (fun hb16 => by (simp only [go_sem, hc2, hc5, hc7, hb16]; done)) ?_
        try simp only [go_sem]
        refine WGuard_pure (v := .ptr 0 0 1) (fun hb15 => by (simp only [go_sem, hc2, hc5, hc7, hb15]; done)) ?_
        try simp only [go_sem]
        refine WGuard_pure (v := .ptr 0 0 3) (fun hb14 => by (simp only [go_sem, hc2, hc5, hc7, hb14]; done)) ?_
        try simp only [go_sem]
        refine WGuard_pure (v := .d (.str a0.name.local_)) (fun hb13 => by (simp only [go_sem, hc2, hc5, hc7, hb13]; done)) ?_
        try simp only [go_sem]
        refine WGuard_split (fun hc11 => ?_) (fun hc12 => ?_)
        · rw [if_pos hc11] at h
          try simp only [go_sem, hc11]
          cases h
          rfl
        · rw [if_neg (ff hc12)] at h
          try simp only [go_sem, hc12]
          cases h
          rfl
      · rw [if_neg (ffn hc8)] at h
        try simp only [go_sem, hc8]
        cases h
        rfl
    · rw [if_neg (ff hc6)] at h
      try simp only [go_sem]
      cases h
      rfl
def L217_0_S (a0 : Sl (Attr)) (x0 : List (forest_key × Int) × Int) : St := ⟨((((Regs.none.set 3 (.map 4)).set 11 (.d (.list a0.n (a0.l.map eAttr)))).set 12 (.d (.int .i64 (a0.l.length : Int)))).set 13 (.d (.int .i64 x0.2))), ((Heap.at 9).set 4 (some (.map (ents eforest_key (fun z => V.d ((D.int .i64) z)) x0.1 0) x0.1.length)))⟩
def L217_0_F (a0 : Sl (Attr)) : ((Unit) ⊕ (Unit)) → Ex × St := fun r => match r with
  | (.inl r) => (.exit 0, ⟨Regs.none, (Heap.at 9)⟩)
  | (.inr r) => (.ret, ⟨(Regs.none.set 2 (.d (.bool false))), (Heap.at 9)⟩)
noncomputable def L217_0_step (a0 : Sl (Attr)) (x0 : List (forest_key × Int) × Int) : Option ((List (forest_key × Int) × Int) ⊕ ((Unit) ⊕ (Unit))) :=
  if (decide (x0.2 < (a0.l.length : Int))) = true then
    (rd a0.l x0.2).bind fun y5 =>
    (dec eforest_key (pc prog 230 [eName y5.name])).bind fun r7 =>
    (dec D.bool (pc prog 229 [eName y5.name])).bind fun r9 =>
    if (!(bif (!r9) then true else (decide (4096 < (y5.value.length : Int))))) = true then
      if (decide (0 < (getE r7 x0.1 (0)))) = true then
        some (.inr (.inr ()))
      else
        some (.inl ((setE r7 (IntKind.wrap .i64 ((getE r7 x0.1 (0)) + 1)) x0.1), (IntKind.wrap .i64 (x0.2 + 1))))
    else
      some (.inr (.inr ()))
  else
    some (.inr (.inl ()))
theorem L217_0_ok (a0 : Sl (Attr)) (x0 : List (forest_key × Int) × Int) (o : (List (forest_key × Int) × Int) ⊕ ((Unit) ⊕ (Unit))) (h : L217_0_step a0 x0 = some o) : Wp prog c217B0 (L217_0_S a0 x0) (LPost 0 (L217_0_S a0) (L217_0_F a0) o) := by
  unfold L217_0_step at h
  delta c217B0 L217_0_S
  try simp only [go_sem]
  refine WBr_split (fun hc3 => ?_) (fun hc4 => ?_)
  · rw [if_pos hc3] at h
    try simp only [go_sem, lookM_get (e := eforest_key) (ev := (D.int .i64)) eforest_key_key, lookM_has (e := eforest_key) (ev := (D.int .i64)) eforest_key_key, entryM_ins (e := eforest_key) (ev := (D.int .i64)) eforest_key_key, mupdM_set (e := eforest_key) (ev := (D.int .i64)) eforest_key_key, lenV_mapE (e := eforest_key) (ev := (D.int .i64))]
    obtain ⟨y5, hy6, h⟩ := bs h
    try simp only [go_sem, lookM_get (e := eforest_key) (ev := (D.int .i64)) eforest_key_key, lookM_has (e := eforest_key) (ev := (D.int .i64)) eforest_key_key, entryM_ins (e := eforest_key) (ev := (D.int .i64)) eforest_key_key, mupdM_set (e := eforest_key) (ev := (D.int .i64)) eforest_key_key, lenV_mapE (e := eforest_key) (ev := (D.int .i64)), rd_pos hy6, rd_ge hy6, rd_map eAttr hy6]
    obtain ⟨r7, hr8, h⟩ := bs h
    replace hr8 := dec_some hr8
    refine WVal_pc hr8 ?_
    try simp only [go_sem, lookM_get (e := eforest_key) (ev := (D.int .i64)) eforest_key_key, lookM_has (e := eforest_key) (ev := (D.int .i64)) eforest_key_key, entryM_ins (e := eforest_key) (ev := (D.int .i64)) eforest_key_key, mupdM_set (e := eforest_key) (ev := (D.int .i64)) eforest_key_key, lenV_mapE (e := eforest_key) (ev := (D.int .i64)), rd_pos hy6, rd_ge hy6, rd_map eAttr hy6]
    obtain ⟨r9, hr10, h⟩ := bs h
    replace hr10 := dec_some hr10
    refine WVal_pc hr10 ?_
    try simp only [go_sem, lookM_get (e := eforest_key) (ev := (D.int .i64)) eforest_key_key, lookM_has (e := eforest_key) (ev := (D.int .i64)) eforest_key_key, entryM_ins (e := eforest_key) (ev := (D.int .i64)) eforest_key_key, mupdM_set (e := eforest_key) (ev := (D.int .i64)) eforest_key_key, lenV_mapE (e := eforest_key) (ev := (D.int .i64)), rd_pos hy6, rd_ge hy6, rd_map eAttr hy6]
    refine WGuard_pure (v := .ptr 12 0 3) (fun hb18 => by (simp only [go_sem, lookM_get (e := eforest_key) (ev := (D.int .i64)) eforest_key_key, lookM_has (e := eforest_key) (ev := (D.int .i64)) eforest_key_key, entryM_ins (e := eforest_key) (ev := (D.int .i64)) eforest_key_key, mupdM_set (e := eforest_key) (ev := (D.int .i64)) eforest_key_key, lenV_mapE (e := eforest_key) (ev := (D.int .i64)), rd_pos hy6, rd_ge hy6, rd_map eAttr hy6, hc3, hb18]; done)) ?_
    try simp only [go_sem, lookM_get (e := eforest_key) (ev := (D.int .i64)) eforest_key_key, lookM_has (e := eforest_key) (ev := (D.int .i64)) eforest_key_key, entryM_ins (e := eforest_key) (ev := (D.int .i64)) eforest_key_key, mupdM_set (e := eforest_key) (ev := (D.int .i64)) eforest_key_key, lenV_mapE (e := eforest_key) (ev := (D.int .i64)), rd_pos hy6, rd_ge hy6, rd_map eAttr hy6]
    refine WGuard_pure (v := .d (.str y5.value)) (fun hb17 => by (simp only [go_sem, lookM_get (e := eforest_key) (ev := (D.int .i64)) eforest_key_key, lookM_has (e := eforest_key) (ev := (D.int .i64)) eforest_key_key, entryM_ins (e := eforest_key) (ev := (D.int .i64)) eforest_key_key, mupdM_set (e := eforest_key) (ev := (D.int .i64)) eforest_key_key, lenV_mapE (e := eforest_key) (ev := (D.int .i64)), rd_pos hy6, rd_ge hy6, rd_map eAttr hy6, hc3, hb17]; done)) ?_
    try simp only [go_sem, lookM_get (e := eforest_key) (ev := (D.int .i64)) eforest_key_key, lookM_has (e := eforest_key) (ev := (D.int .i64)) eforest_key_key, entryM_ins (e := eforest_key) (ev := (D.int .i64)) eforest_key_key, mupdM_set (e := eforest_key) (ev := (D.int .i64)) eforest_key_key, lenV_mapE (e := eforest_key) (ev := (D.int .i64)), rd_pos hy6, rd_ge hy6, rd_map eAttr hy6]
    refine WGuard_pure (v := .d (.int .i64 (y5.value.length : Int))) (fun hb16 => by (simp only [go_sem, lookM_get (e := eforest_key) (ev := (D.int .i64)) eforest_key_key, lookM_has (e := eforest_key) (ev := (D.int .i64)) eforest_key_key, entryM_ins (e := eforest_key) (ev := (D.int .i64)) eforest_key_key, mupdM_set (e := eforest_key) (ev := (D.int .i64)) eforest_key_key, lenV_mapE (e := eforest_key) (ev := (D.int .i64)), rd_pos hy6, rd_ge hy6, rd_map eAttr hy6, hc3, hb16]; done)) ?_
    try simp only [go_sem, lookM_get (e := eforest_key) (ev := (D.int .i64)) eforest_key_key, lookM_has (e := eforest_key) (ev := (D.int .i64)) eforest_key_key, entryM_ins (e := eforest_key) (ev := (D.int .i64)) eforest_key_key, mupdM_set (e := eforest_key) (ev := (D.int .i64)) eforest_key_key, lenV_mapE (e := eforest_key) (ev := (D.int .i64)), rd_pos hy6, rd_ge hy6, rd_map eAttr hy6]
    refine WGuard_pure (v := .d (.bool (decide (4096 < (y5.value.length : Int))))) (fun hb15 => by (simp only [go_sem, lookM_get (e := eforest_key) (ev := (D.int .i64)) eforest_key_key, lookM_has (e := eforest_key) (ev := (D.int .i64)) eforest_key_key, entryM_ins (e := eforest_key) (ev := (D.int .i64)) eforest_key_key, mupdM_set (e := eforest_key) (ev := (D.int .i64)) eforest_key_key, lenV_mapE (e := eforest_key) (ev := (D.int .i64)), rd_pos hy6, rd_ge hy6, rd_map eAttr hy6, hc3, hb15]; done)) ?_
    try simp only [go_sem, lookM_get (e := eforest_key) (ev := (D.int .i64)) eforest_key_key, lookM_has (e := eforest_key) (ev := (D.int .i64)) eforest_key_key, entryM_ins (e := eforest_key) (ev := (D.int .i64)) eforest_key_key, mupdM_set (e := eforest_key) (ev := (D.int .i64)) eforest_key_key, lenV_mapE (e := eforest_key) (ev := (D.int .i64)), rd_pos hy6, rd_ge hy6, rd_map eAttr hy6]
    refine WGuard_splitN (fun hc11 => ?_) (fun hc12 => ?_)
    · rw [if_pos (show (!(bif (!r9) then true else (decide (4096 < (y5.value.length : Int))))) = true by (rw [hc11]; rfl))] at h
      try simp only [go_sem, lookM_get (e := eforest_key) (ev := (D.int .i64)) eforest_key_key, lookM_has (e := eforest_key) (ev := (D.int .i64)) eforest_key_key, entryM_ins (e := eforest_key) (ev := (D.int .i64)) eforest_key_key, mupdM_set (e := eforest_key) (ev := (D.int .i64)) eforest_key_key, lenV_mapE (e := eforest_key) (ev := (D.int .i64)), rd_pos hy6, rd_ge hy6, rd_map eAttr hy6, hc11]
      refine WBr_split (fun hc13 => ?_) (fun hc14 => ?_)
      · rw [if_pos hc13] at h
        try simp only [go_sem, lookM_get (e := eforest_key) (ev := (D.int .i64)) eforest_key_key, lookM_has (e := eforest_key) (ev := (D.int .i64)) eforest_key_key, entryM_ins (e := eforest_key) (ev := (D.int .i64)) eforest_key_key, mupdM_set (e := eforest_key) (ev := (D.int .i64)) eforest_key_key, lenV_mapE (e := eforest_key) (ev := (D.int .i64)), rd_pos hy6, rd_ge hy6, rd_map eAttr hy6]
        cases h
        exact ⟨rfl, by simp, Up.of (N := 9) (N' := 36) [] rfl rfl (by decide) (.set (.d _) RegsR.none) BlksR.at⟩
      · rw [if_neg (ff hc14)] at h
        try simp only [go_sem, lookM_get (e := eforest_key) (ev := (D.int .i64)) eforest_key_key, lookM_has (e := eforest_key) (ev := (D.int .i64)) eforest_key_key, entryM_ins (e := eforest_key) (ev := (D.int .i64)) eforest_key_key, mupdM_set (e := eforest_key) (ev := (D.int .i64)) eforest_key_key, lenV_mapE (e := eforest_key) (ev := (D.int .i64)), rd_pos hy6, rd_ge hy6, rd_map eAttr hy6]
        cases h
        exact ⟨rfl, Up.of (N := 9) (N' := 44) [] rfl rfl (by decide) (.set (.d _) (.set (.d _) (.set (.d _) (.set (.map' rfl) RegsR.none)))) (.set BlkR.map_d BlksR.at)⟩
    · rw [if_neg (ffn hc12)] at h
      try simp only [go_sem, lookM_get (e := eforest_key) (ev := (D.int .i64)) eforest_key_key, lookM_has (e := eforest_key) (ev := (D.int .i64)) eforest_key_key, entryM_ins (e := eforest_key) (ev := (D.int .i64)) eforest_key_key, mupdM_set (e := eforest_key) (ev := (D.int .i64)) eforest_key_key, lenV_mapE (e := eforest_key) (ev := (D.int .i64)), rd_pos hy6, rd_ge hy6, rd_map eAttr hy6, hc12]
      cases h
      exact ⟨rfl, by simp, Up.of (N := 9) (N' := 36) [] rfl rfl (by decide) (.set (.d _) RegsR.none) BlksR.at⟩
  · rw [if_neg (ff hc4)] at h
    try simp only [go_sem, lookM_get (e := eforest_key) (ev := (D.int .i64)) eforest_key_key, lookM_has (e := eforest_key) (ev := (D.int .i64)) eforest_key_key, entryM_ins (e := eforest_key) (ev := (D.int .i64)) eforest_key_key, mupdM_set (e := eforest_key) (ev := (D.int .i64)) eforest_key_key, lenV_mapE (e := eforest_key) (ev := (D.int .i64))]
    cases h
    exact ⟨rfl, by simp, Up.of (N := 9) (N' := 10) [] rfl rfl (by decide) RegsR.none BlksR.at⟩
noncomputable def P217 (a0 : Sl (Attr)) : Option (Bool) :=
  if (decide (64 < (a0.l.length : Int))) = true then
    some false
  else
    (loopV (L217_0_step a0) ([], 0)).bind fun r19 =>
    match r19 with
    | (.inl q21) =>
      some true
    | (.inr q22) =>
      some false
theorem ok217 (a0 : Sl (Attr)) (r : Bool) (h : P217 a0 = some r) : pc prog 217 [.list a0.n (a0.l.map eAttr)] = some (D.bool r) := by
  unfold P217 at h
  refine pc_of (fn := c217) rfl rfl ?_
  delta c217
  try simp only [go_sem]
  refine WBr_split (fun hc1 => ?_) (fun hc2 => ?_)
  · rw [if_pos hc1] at h
    try simp only [go_sem]
    cases h
    rfl
  · rw [if_neg (ff hc2)] at h
    try simp only [go_sem]
    obtain ⟨r19, hl20, h⟩ := bs h
    refine Wp.loopR locs (n := 0) (a := c217B0) rfl (L217_0_S a0) (L217_0_F a0) (L217_0_ok a0) hl20 ?_ (by (repeat (first | refine Clo.block ?_ | refine Clo.seq locs rfl ?_)); (exact Clo.ret)) ?_
    · show Up 0 (L217_0_S a0 ([], 0)) _
      delta L217_0_S
      exact Up.of (N := 9) (N' := 9) [] rfl rfl (by decide) (.set (.d _) (.set (.d _) (.set (.d _) (.set (.map' rfl) RegsR.none)))) (.set BlkR.map_d BlksR.at)
    · rcases r19 with (q21 | q22)
      · dsimp only at h
        dsimp only [L217_0_F]
        try simp only [go_sem]
        cases h
        rfl
      · dsimp only at h
        dsimp only [L217_0_F]
        try simp only [go_sem]
        cases h
        rfl
def L218_0_S (a0 : Sl (List UInt8)) (x0 : Int) : St := ⟨(((Regs.none.set 5 (.d (.list a0.n (a0.l.map D.str)))).set 6 (.d (.int .i64 (a0.l.length : Int)))).set 7 (.d (.int .i64 x0))), (Heap.at 4)⟩
def L218_0_F (a0 : Sl (List UInt8)) : ((Unit) ⊕ (Unit)) → Ex × St := fun r => match r with
  | (.inl r) => (.exit 0, ⟨Regs.none, (Heap.at 4)⟩)
  | (.inr r) => (.ret, ⟨(Regs.none.set 2 (.d (.bool false))), (Heap.at 4)⟩)
noncomputable def L218_0_step (a0 : Sl (List UInt8)) (x0 : Int) : Option ((Int) ⊕ ((Unit) ⊕ (Unit))) :=
  if (decide (x0 < (a0.l.length : Int))) = true then
    (rd a0.l x0).bind fun y3 =>
    if (decide (1024 < (y3.length : Int))) = true then
      some (.inr (.inr ()))
    else
      some (.inl (IntKind.wrap .i64 (x0 + 1)))
  else
    some (.inr (.inl ()))
theorem L218_0_ok (a0 : Sl (List UInt8)) (x0 : Int) (o : (Int) ⊕ ((Unit) ⊕ (Unit))) (h : L218_0_step a0 x0 = some o) : Wp prog c218B0 (L218_0_S a0 x0) (LPost 0 (L218_0_S a0) (L218_0_F a0) o) := by
  unfold L218_0_step at h
  delta c218B0 L218_0_S
  try simp only [go_sem]
  refine WBr_split (fun hc1 => ?_) (fun hc2 => ?_)
  · rw [if_pos hc1] at h
    try simp only [go_sem]
    obtain ⟨y3, hy4, h⟩ := bs h
    try simp only [go_sem, rd_pos hy4, rd_ge hy4, rd_map D.str hy4]
    refine WBr_split (fun hc5 => ?_) (fun hc6 => ?_)
    · rw [if_pos hc5] at h
      try simp only [go_sem, rd_pos hy4, rd_ge hy4, rd_map D.str hy4]
      cases h
      exact ⟨rfl, by simp, Up.of (N := 4) (N' := 12) [] rfl rfl (by decide) (.set (.d _) RegsR.none) BlksR.at⟩
    · rw [if_neg (ff hc6)] at h
      try simp only [go_sem, rd_pos hy4, rd_ge hy4, rd_map D.str hy4]
      cases h
      exact ⟨rfl, Up.of (N := 4) (N' := 13) [] rfl rfl (by decide) (.set (.d _) (.set (.d _) (.set (.d _) RegsR.none))) BlksR.at⟩
  · rw [if_neg (ff hc2)] at h
    try simp only [go_sem]
    cases h
    exact ⟨rfl, by simp, Up.of (N := 4) (N' := 5) [] rfl rfl (by decide) RegsR.none BlksR.at⟩
noncomputable def P218 (a0 : Sl (List UInt8)) : Option (Bool) :=
  (loopV (L218_0_step a0) 0).bind fun r7 =>
  match r7 with
  | (.inl q9) =>
    some true
  | (.inr q10) =>
    some false
theorem ok218 (a0 : Sl (List UInt8)) (r : Bool) (h : P218 a0 = some r) : pc prog 218 [.list a0.n (a0.l.map D.str)] = some (D.bool r) := by
  unfold P218 at h
  refine pc_of (fn := c218) rfl rfl ?_
  delta c218
  try simp only [go_sem]
  obtain ⟨r7, hl8, h⟩ := bs h
  refine Wp.loopR locs (n := 0) (a := c218B0) rfl (L218_0_S a0) (L218_0_F a0) (L218_0_ok a0) hl8 ?_ (by (repeat (first | refine Clo.block ?_ | refine Clo.seq locs rfl ?_)); (exact Clo.ret)) ?_
  · show Up 0 (L218_0_S a0 0) _
    delta L218_0_S
    exact Up.of (N := 4) (N' := 4) [] rfl rfl (by decide) (.set (.d _) (.set (.d _) (.set (.d _) RegsR.none))) BlksR.at
  · rcases r7 with (q9 | q10)
    · dsimp only at h
      dsimp only [L218_0_F]
      try simp only [go_sem]
      cases h
      rfl
    · dsimp only at h
      dsimp only [L218_0_F]
      try simp only [go_sem]
      cases h
      rfl
noncomputable def P219 (a0 : Forest) (a1 : Int) : Option (Node × Bool) :=
  if (bif (decide (a1 < 1)) then true else (decide ((a0.nodes.l.length : Int) < a1))) = true then
    some ((⟨0, ⟨[], [], []⟩, [], [], ⟨true, []⟩, ⟨true, []⟩, 0, ⟨true, []⟩, 0, 0, 0, 0, false, false⟩ : Node), false)
  else
    (rd a0.nodes.l (IntKind.wrap .i64 (a1 - 1))).bind fun y3 =>
    some (y3, true)
theorem ok219 (a0 : Forest) (a1 : Int) (r : Node × Bool) (h : P219 a0 a1 = some r) : pc prog 219 [eForest a0, .int .i64 a1] = some ((eT2 eNode D.bool) r) := by
  unfold P219 at h
  refine pc_of (fn := c219) rfl rfl ?_
  delta c219
  try simp only [go_sem]
  refine WGuard_pure (v := .d (.int .i64 a1)) (fun hb9 => by (simp only [go_sem, hb9]; done)) ?_
  try simp only [go_sem]
  refine WGuard_pure (v := .ptr 0 0 0) (fun hb8 => by (simp only [go_sem, hb8]; done)) ?_
  try simp only [go_sem]
  refine WGuard_pure (v := .d (.list a0.nodes.n (a0.nodes.l.map eNode))) (fun hb7 => by (simp only [go_sem, hb7]; done)) ?_
  try simp only [go_sem]
  refine WGuard_pure (v := .d (.int .i64 (a0.nodes.l.length : Int))) (fun hb6 => by (simp only [go_sem, hb6]; done)) ?_
  try simp only [go_sem]
  refine WGuard_pure (v := .d (.bool (decide ((a0.nodes.l.length : Int) < a1)))) (fun hb5 => by (simp only [go_sem, hb5]; done)) ?_
  try simp only [go_sem]
  refine WBr_split (fun hc1 => ?_) (fun hc2 => ?_)
  · rw [if_pos hc1] at h
    try simp only [go_sem]
    cases h
    rfl
  · rw [if_neg (ff hc2)] at h
    try simp only [go_sem]
    obtain ⟨y3, hy4, h⟩ := bs h
    try simp only [go_sem, rd_pos hy4, rd_ge hy4, rd_map eNode hy4]
    cases h
    rfl
def L220_0_S (a0 : Sl (Int)) (a1 : Int) (x0 : Int × Int) : St := ⟨(((((Regs.none.set 1 (.d (.int .i64 a1))).set 5 (.d (.int .i64 x0.2))).set 8 (.d (.list a0.n (a0.l.map (D.int .i64))))).set 9 (.d (.int .i64 (a0.l.length : Int)))).set 10 (.d (.int .i64 x0.1))), (Heap.at 5)⟩
def L220_0_F (a0 : Sl (Int)) (a1 : Int) : ((Int)) → Ex × St := fun r => (.exit 0, ⟨(Regs.none.set 5 (.d (.int .i64 r))), (Heap.at 5)⟩)
noncomputable def L220_0_step (a0 : Sl (Int)) (a1 : Int) (x0 : Int × Int) : Option ((Int × Int) ⊕ ((Int))) :=
  if (decide (x0.1 < (a0.l.length : Int))) = true then
    (rd a0.l x0.1).bind fun y3 =>
    if (y3 == a1) = true then
      some (.inl ((IntKind.wrap .i64 (x0.1 + 1)), (IntKind.wrap .i64 (x0.2 + 1))))
    else
      some (.inl ((IntKind.wrap .i64 (x0.1 + 1)), x0.2))
  else
    some (.inr x0.2)
theorem L220_0_ok (a0 : Sl (Int)) (a1 : Int) (x0 : Int × Int) (o : (Int × Int) ⊕ ((Int))) (h : L220_0_step a0 a1 x0 = some o) : Wp prog c220B0 (L220_0_S a0 a1 x0) (LPost 0 (L220_0_S a0 a1) (L220_0_F a0 a1) o) := by
  unfold L220_0_step at h
  delta c220B0 L220_0_S
  try simp only [go_sem]
  refine WBr_split (fun hc1 => ?_) (fun hc2 => ?_)
  · rw [if_pos hc1] at h
    try simp only [go_sem]
    obtain ⟨y3, hy4, h⟩ := bs h
    try simp only [go_sem, rd_pos hy4, rd_ge hy4, rd_map (D.int .i64) hy4]
    refine WBr_split (fun hc5 => ?_) (fun hc6 => ?_)
    · rw [if_pos hc5] at h
      try simp only [go_sem, rd_pos hy4, rd_ge hy4, rd_map (D.int .i64) hy4]
      cases h
      exact ⟨rfl, Up.of (N := 5) (N' := 17) [] rfl rfl (by decide) (.set (.d _) (.set (.d _) (.set (.d _) (.set (.d _) (.set (.d _) RegsR.none))))) BlksR.at⟩
    · rw [if_neg (ff hc6)] at h
      try simp only [go_sem, rd_pos hy4, rd_ge hy4, rd_map (D.int .i64) hy4]
      cases h
      exact ⟨rfl, Up.of (N := 5) (N' := 14) [] rfl rfl (by decide) (.set (.d _) (.set (.d _) (.set (.d _) (.set (.d _) (.set (.d _) RegsR.none))))) BlksR.at⟩
  · rw [if_neg (ff hc2)] at h
    try simp only [go_sem]
    cases h
    exact ⟨rfl, by simp, Up.of (N := 5) (N' := 6) [] rfl rfl (by decide) (.set (.d _) RegsR.none) BlksR.at⟩
noncomputable def P220 (a0 : Sl (Int)) (a1 : Int) : Option (Bool) :=
  (loopV (L220_0_step a0 a1) (0, 0)).bind fun r7 =>
  some (r7 == 1)
theorem ok220 (a0 : Sl (Int)) (a1 : Int) (r : Bool) (h : P220 a0 a1 = some r) : pc prog 220 [.list a0.n (a0.l.map (D.int .i64)), .int .i64 a1] = some (D.bool r) := by
  unfold P220 at h
  refine pc_of (fn := c220) rfl rfl ?_
  delta c220
  try simp only [go_sem]
  obtain ⟨r7, hl8, h⟩ := bs h
  refine Wp.loopR locs (n := 0) (a := c220B0) rfl (L220_0_S a0 a1) (L220_0_F a0 a1) (L220_0_ok a0 a1) hl8 ?_ (by (repeat (first | refine Clo.block ?_ | refine Clo.seq locs rfl ?_)); (exact Clo.ret)) ?_
  · show Up 0 (L220_0_S a0 a1 (0, 0)) _
    delta L220_0_S
    exact Up.of (N := 5) (N' := 5) [] rfl rfl (by decide) (.set (.d _) (.set (.d _) (.set (.d _) (.set (.d _) (.set (.d _) RegsR.none))))) BlksR.at
  · dsimp only [L220_0_F]
    try simp only [go_sem]
    cases h
    rfl
noncomputable def P221 (a0 : Forest) (a1 : Int) : Option (Int) :=
  (dec (eT2 eNode D.bool) (pc prog 219 [eForest a0, .int .i64 a1])).bind fun r1 =>
  some r1.1.kind
theorem ok221 (a0 : Forest) (a1 : Int) (r : Int) (h : P221 a0 a1 = some r) : pc prog 221 [eForest a0, .int .i64 a1] = some ((D.int .u8) r) := by
  unfold P221 at h
  refine pc_of (fn := c221) rfl rfl ?_
  delta c221
  try simp only [go_sem]
  obtain ⟨r1, hr2, h⟩ := bs h
  replace hr2 := dec_some hr2
  refine WVal_pc hr2 ?_
  try simp only [go_sem]
  cases h
  rfl
def L222_0_S (a0 : Forest) (a1 : Int) (a2 : Node) (x0 : List (Int × Int) × Int) : St := ⟨(((((((Regs.none.set 1 (.d (.int .i64 a1))).set 3 (.ptr 0 0 0)).set 5 (.ptr 1 0 0)).set 7 (.map 3)).set 14 (.d (.list a2.kids.n (a2.kids.l.map (D.int .i64))))).set 15 (.d (.int .i64 (a2.kids.l.length : Int)))).set 16 (.d (.int .i64 x0.2))), ((((Heap.at 9).set 0 (some (.els 1 [.d (eForest a0)] 0))).set 1 (some (.els 16 [.d (eNode a2)] 0))).set 3 (some (.map (ents (D.int .i64) (fun z => V.d ((D.int .i64) z)) x0.1 0) x0.1.length)))⟩
def L222_0_F (a0 : Forest) (a1 : Int) (a2 : Node) : ((Unit) ⊕ (Unit)) → Ex × St := fun r => match r with
  | (.inl r) => (.exit 0, ⟨((Regs.none.set 3 (.ptr 0 0 0)).set 5 (.ptr 1 0 0)), (((Heap.at 9).set 0 (some (.els 1 [.d (eForest a0)] 0))).set 1 (some (.els 16 [.d (eNode a2)] 0)))⟩)
  | (.inr r) => (.ret, ⟨(Regs.none.set 6 (.d (.bool false))), (Heap.at 9)⟩)
noncomputable def L222_0_step (a0 : Forest) (a1 : Int) (a2 : Node) (x0 : List (Int × Int) × Int) : Option ((List (Int × Int) × Int) ⊕ ((Unit) ⊕ (Unit))) :=
  if (decide (x0.2 < (a2.kids.l.length : Int))) = true then
    (rd a2.kids.l x0.2).bind fun y3 =>
    (dec (eT2 eNode D.bool) (pc prog 219 [eForest a0, .int .i64 y3])).bind fun r5 =>
    if r5.2 = true then
      if (bif (bif (decide (0 < (getE y3 x0.1 (0)))) then true else (!(r5.1.parent == a1))) then true else (!(r5.1.doc == a2.doc))) = true then
        some (.inr (.inr ()))
      else
        some (.inl ((setE y3 (IntKind.wrap .i64 ((getE y3 x0.1 (0)) + 1)) x0.1), (IntKind.wrap .i64 (x0.2 + 1))))
    else
      some (.inr (.inr ()))
  else
    some (.inr (.inl ()))
theorem L222_0_ok (a0 : Forest) (a1 : Int) (a2 : Node) (x0 : List (Int × Int) × Int) (o : (List (Int × Int) × Int) ⊕ ((Unit) ⊕ (Unit))) (h : L222_0_step a0 a1 a2 x0 = some o) : Wp prog c222B0 (L222_0_S a0 a1 a2 x0) (LPost 0 (L222_0_S a0 a1 a2) (L222_0_F a0 a1 a2) o) := by
  unfold L222_0_step at h
  delta c222B0 L222_0_S
  try simp only [go_sem]
  refine WBr_split (fun hc1 => ?_) (fun hc2 => ?_)
  · rw [if_pos hc1] at h
    try simp only [go_sem, lookM_get (e := (D.int .i64)) (ev := (D.int .i64)) keyed_int, lookM_has (e := (D.int .i64)) (ev := (D.int .i64)) keyed_int, entryM_ins (e := (D.int .i64)) (ev := (D.int .i64)) keyed_int, mupdM_set (e := (D.int .i64)) (ev := (D.int .i64)) keyed_int, lenV_mapE (e := (D.int .i64)) (ev := (D.int .i64))]
    obtain ⟨y3, hy4, h⟩ := bs h
    try simp only [go_sem, lookM_get (e := (D.int .i64)) (ev := (D.int .i64)) keyed_int, lookM_has (e := (D.int .i64)) (ev := (D.int .i64)) keyed_int, entryM_ins (e := (D.int .i64)) (ev := (D.int .i64)) keyed_int, mupdM_set (e := (D.int .i64)) (ev := (D.int .i64)) keyed_int, lenV_mapE (e := (D.int .i64)) (ev := (D.int .i64)), rd_pos hy4, rd_ge hy4, rd_map (D.int .i64) hy4]
    obtain ⟨r5, hr6, h⟩ := bs h
    replace hr6 := dec_some hr6
    refine WVal_pc hr6 ?_
    try simp only [go_sem, lookM_get (e := (D.int .i64)) (ev := (D.int .i64)) keyed_int, lookM_has (e := (D.int .i64)) (ev := (D.int .i64)) keyed_int, entryM_ins (e := (D.int .i64)) (ev := (D.int .i64)) keyed_int, mupdM_set (e := (D.int .i64)) (ev := (D.int .i64)) keyed_int, lenV_mapE (e := (D.int .i64)) (ev := (D.int .i64)), rd_pos hy4, rd_ge hy4, rd_map (D.int .i64) hy4]
    refine WGuard_split (fun hc7 => ?_) (fun hc8 => ?_)
    · rw [if_pos hc7] at h
      try simp only [go_sem, lookM_get (e := (D.int .i64)) (ev := (D.int .i64)) keyed_int, lookM_has (e := (D.int .i64)) (ev := (D.int .i64)) keyed_int, entryM_ins (e := (D.int .i64)) (ev := (D.int .i64)) keyed_int, mupdM_set (e := (D.int .i64)) (ev := (D.int .i64)) keyed_int, lenV_mapE (e := (D.int .i64)) (ev := (D.int .i64)), rd_pos hy4, rd_ge hy4, rd_map (D.int .i64) hy4, hc7]
      refine WGuard_pure (v := .ptr 19 0 8) (fun hb19 => by (simp only [go_sem, lookM_get (e := (D.int .i64)) (ev := (D.int .i64)) keyed_int, lookM_has (e := (D.int .i64)) (ev := (D.int .i64)) keyed_int, entryM_ins (e := (D.int .i64)) (ev := (D.int .i64)) keyed_int, mupdM_set (e := (D.int .i64)) (ev := (D.int .i64)) keyed_int, lenV_mapE (e := (D.int .i64)) (ev := (D.int .i64)), rd_pos hy4, rd_ge hy4, rd_map (D.int .i64) hy4, hc1, hc7, hb19]; done)) ?_
      try simp only [go_sem, lookM_get (e := (D.int .i64)) (ev := (D.int .i64)) keyed_int, lookM_has (e := (D.int .i64)) (ev := (D.int .i64)) keyed_int, entryM_ins (e := (D.int .i64)) (ev := (D.int .i64)) keyed_int, mupdM_set (e := (D.int .i64)) (ev := (D.int .i64)) keyed_int, lenV_mapE (e := (D.int .i64)) (ev := (D.int .i64)), rd_pos hy4, rd_ge hy4, rd_map (D.int .i64) hy4]
      refine WGuard_pure (v := .d (.int .i64 r5.1.parent)) (fun hb18 => by (simp only [go_sem, lookM_get (e := (D.int .i64)) (ev := (D.int .i64)) keyed_int, lookM_has (e := (D.int .i64)) (ev := (D.int .i64)) keyed_int, entryM_ins (e := (D.int .i64)) (ev := (D.int .i64)) keyed_int, mupdM_set (e := (D.int .i64)) (ev := (D.int .i64)) keyed_int, lenV_mapE (e := (D.int .i64)) (ev := (D.int .i64)), rd_pos hy4, rd_ge hy4, rd_map (D.int .i64) hy4, hc1, hc7, hb18]; done)) ?_
      try simp only [go_sem, lookM_get (e := (D.int .i64)) (ev := (D.int .i64)) keyed_int, lookM_has (e := (D.int .i64)) (ev := (D.int .i64)) keyed_int, entryM_ins (e := (D.int .i64)) (ev := (D.int .i64)) keyed_int, mupdM_set (e := (D.int .i64)) (ev := (D.int .i64)) keyed_int, lenV_mapE (e := (D.int .i64)) (ev := (D.int .i64)), rd_pos hy4, rd_ge hy4, rd_map (D.int .i64) hy4]
      refine WGuard_pure (v := .d (.int .i64 a1)) (fun hb17 => by (simp only [go_sem, lookM_get (e := (D.int .i64)) (ev := (D.int .i64)) keyed_int, lookM_has (e := (D.int .i64)) (ev := (D.int .i64)) keyed_int, entryM_ins (e := (D.int .i64)) (ev := (D.int .i64)) keyed_int, mupdM_set (e := (D.int .i64)) (ev := (D.int .i64)) keyed_int, lenV_mapE (e := (D.int .i64)) (ev := (D.int .i64)), rd_pos hy4, rd_ge hy4, rd_map (D.int .i64) hy4, hc1, hc7, hb17]; done)) ?_
      try simp only [go_sem, lookM_get (e := (D.int .i64)) (ev := (D.int .i64)) keyed_int, lookM_has (e := (D.int .i64)) (ev := (D.int .i64)) keyed_int, entryM_ins (e := (D.int .i64)) (ev := (D.int .i64)) keyed_int, mupdM_set (e := (D.int .i64)) (ev := (D.int .i64)) keyed_int, lenV_mapE (e := (D.int .i64)) (ev := (D.int .i64)), rd_pos hy4, rd_ge hy4, rd_map (D.int .i64) hy4]
      refine WGuard_pure (v := .d (.bool (!(r5.1.parent == a1)))) (fun hb16 => by (simp only [go_sem, lookM_get (e := (D.int .i64)) (ev := (D.int .i64)) keyed_int, lookM_has (e := (D.int .i64)) (ev := (D.int .i64)) keyed_int, entryM_ins (e := (D.int .i64)) (ev := (D.int .i64)) keyed_int, mupdM_set (e := (D.int .i64)) (ev := (D.int .i64)) keyed_int, lenV_mapE (e := (D.int .i64)) (ev := (D.int .i64)), rd_pos hy4, rd_ge hy4, rd_map (D.int .i64) hy4, hc1, hc7, hb16]; done)) ?_
      try simp only [go_sem, lookM_get (e := (D.int .i64)) (ev := (D.int .i64)) keyed_int, lookM_has (e := (D.int .i64)) (ev := (D.int .i64)) keyed_int, entryM_ins (e := (D.int .i64)) (ev := (D.int .i64)) keyed_int, mupdM_set (e := (D.int .i64)) (ev := (D.int .i64)) keyed_int, lenV_mapE (e := (D.int .i64)) (ev := (D.int .i64)), rd_pos hy4, rd_ge hy4, rd_map (D.int .i64) hy4]
      refine WGuard_pure (v := .ptr 19 0 10) (fun hb15 => by (simp only [go_sem, lookM_get (e := (D.int .i64)) (ev := (D.int .i64)) keyed_int, lookM_has (e := (D.int .i64)) (ev := (D.int .i64)) keyed_int, entryM_ins (e := (D.int .i64)) (ev := (D.int .i64)) keyed_int, mupdM_set (e := (D.int .i64)) (ev := (D.int .i64)) keyed_int, lenV_mapE (e := (D.int .i64)) (ev := (D.int .i64)), rd_pos hy4, rd_ge hy4, rd_map (D.int .i64) hy4, hc1, hc7, hb15]; done)) ?_
      try simp only [go_sem, lookM_get (e := (D.int .i64)) (ev := (D.int .i64)) keyed_int, lookM_has (e := (D.int .i64)) (ev := (D.int .i64)) keyed_int, entryM_ins (e := (D.int .i64)) (ev := (D.int .i64)) keyed_int, mupdM_set (e := (D.int .i64)) (ev := (D.int .i64)) keyed_int, lenV_mapE (e := (D.int .i64)) (ev := (D.int .i64)), rd_pos hy4, rd_ge hy4, rd_map (D.int .i64) hy4]
      refine WGuard_pure (v := .d (.int .i64 r5.1.doc)) (fun hb14 => by (simp only [go_sem, lookM_get (e := (D.int .i64)) (ev := (D.int .i64)) keyed_int, lookM_has (e := (D.int .i64)) (ev := (D.int .i64)) keyed_int, entryM_ins (e := (D.int .i64)) (ev := (D.int .i64)) keyed_int, mupdM_set (e := (D.int .i64)) (ev := (D.int .i64)) keyed_int, lenV_mapE (e := (D.int .i64)) (ev := (D.int .i64)), rd_pos hy4, rd_ge hy4, rd_map (D.int .i64) hy4, hc1, hc7, hb14]; done)) ?_
      try simp only [go_sem, lookM_get (e := (D.int .i64)) (ev := (D.int .i64)) keyed_int, lookM_has (e := (D.int .i64)) (ev := (D.int .i64)) keyed_int, entryM_ins (e := (D.int .i64)) (ev := (D.int .i64)) keyed_int, mupdM_set (e := (D.int .i64)) (ev := (D.int .i64)) keyed_int, lenV_mapE (e := (D.int .i64)) (ev := (D.int .i64)), rd_pos hy4, rd_ge hy4, rd_map (D.int .i64) hy4]
      refine WGuard_pure (v := .ptr 1 0 10) (fun hb13 => by (simp only [go_sem, lookM_get (e := (D.int .i64)) (ev := (D.int .i64)) keyed_int, lookM_has (e := (D.int .i64)) (ev := (D.int .i64)) keyed_int, entryM_ins (e := (D.int .i64)) (ev := (D.int .i64)) keyed_int, mupdM_set (e := (D.int .i64)) (ev := (D.int .i64)) keyed_int, lenV_mapE (e := (D.int .i64)) (ev := (D.int .i64)), rd_pos hy4, rd_ge hy4, rd_map (D.int .i64) hy4, hc1, hc7, hb13]; done)) ?_
      try simp only [go_sem, lookM_get (e := (D.int .i64)) (ev := (D.int .i64)) keyed_int, lookM_has (e := (D.int .i64)) (ev := (D.int .i64)) keyed_int, entryM_ins (e := (D.int .i64)) (ev := (D.int .i64)) keyed_int, mupdM_set (e := (D.int .i64)) (ev := (D.int .i64)) keyed_int, lenV_mapE (e := (D.int .i64)) (ev := (D.int .i64)), rd_pos hy4, rd_ge hy4, rd_map (D.int .i64) hy4]
      refine WGuard_pure (v := .d (.int .i64 a2.doc)) (fun hb12 => by (simp only [go_sem, lookM_get (e := (D.int .i64)) (ev := (D.int .i64)) keyed_int, lookM_has (e := (D.int .i64)) (ev := (D.int .i64)) keyed_int, entryM_ins (e := (D.int .i64)) (ev := (D.int .i64)) keyed_int, mupdM_set (e := (D.int .i64)) (ev := (D.int .i64)) keyed_int, lenV_mapE (e := (D.int .i64)) (ev := (D.int .i64)), rd_pos hy4, rd_ge hy4, rd_map (D.int .i64) hy4, hc1, hc7, hb12]; done)) ?_
      try simp only [go_sem, lookM_get (e := (D.int .i64)) (ev := (D.int .i64)) keyed_int, lookM_has (e := (D.int .i64)) (ev := (D.int .i64)) keyed_int, entryM_ins (e := (D.int .i64)) (ev := (D.int .i64)) keyed_int, mupdM_set (e := (D.int .i64)) (ev := (D.int .i64)) keyed_int, lenV_mapE (e := (D.int .i64)) (ev := (D.int .i64)), rd_pos hy4, rd_ge hy4, rd_map (D.int .i64) hy4]
      refine WGuard_pure (v := .d (.bool (!(r5.1.doc == a2.doc)))) (fun hb11 => by (simp only [go_sem, lookM_get (e := (D.int .i64)) (ev := (D.int .i64)) keyed_int, lookM_has (e := (D.int .i64)) (ev := (D.int .i64)) keyed_int, entryM_ins (e := (D.int .i64)) (ev := (D.int .i64)) keyed_int, mupdM_set (e := (D.int .i64)) (ev := (D.int .i64)) keyed_int, lenV_mapE (e := (D.int .i64)) (ev := (D.int .i64)), rd_pos hy4, rd_ge hy4, rd_map (D.int .i64) hy4, hc1, hc7, hb11]; done)) ?_
      try simp only [go_sem, lookM_get (e := (D.int .i64)) (ev := (D.int .i64)) keyed_int, lookM_has (e := (D.int .i64)) (ev := (D.int .i64)) keyed_int, entryM_ins (e := (D.int .i64)) (ev := (D.int .i64)) keyed_int, mupdM_set (e := (D.int .i64)) (ev := (D.int .i64)) keyed_int, lenV_mapE (e := (D.int .i64)) (ev := (D.int .i64)), rd_pos hy4, rd_ge hy4, rd_map (D.int .i64) hy4]
      refine WBr_split (fun hc9 => ?_) (fun hc10 => ?_)
      · rw [if_pos hc9] at h
        try simp only [go_sem, lookM_get (e := (D.int .i64)) (ev := (D.int .i64)) keyed_int, lookM_has (e := (D.int .i64)) (ev := (D.int .i64)) keyed_int, entryM_ins (e := (D.int .i64)) (ev := (D.int .i64)) keyed_int, mupdM_set (e := (D.int .i64)) (ev := (D.int .i64)) keyed_int, lenV_mapE (e := (D.int .i64)) (ev := (D.int .i64)), rd_pos hy4, rd_ge hy4, rd_map (D.int .i64) hy4]
        cases h
        exact ⟨rfl, by simp, Up.of (N := 9) (N' := 44) [] rfl rfl (by decide) (.set (.d _) RegsR.none) BlksR.at⟩
      · rw [if_neg (ff hc10)] at h
        try simp only [go_sem, lookM_get (e := (D.int .i64)) (ev := (D.int .i64)) keyed_int, lookM_has (e := (D.int .i64)) (ev := (D.int .i64)) keyed_int, entryM_ins (e := (D.int .i64)) (ev := (D.int .i64)) keyed_int, mupdM_set (e := (D.int .i64)) (ev := (D.int .i64)) keyed_int, lenV_mapE (e := (D.int .i64)) (ev := (D.int .i64)), rd_pos hy4, rd_ge hy4, rd_map (D.int .i64) hy4]
        cases h
        exact ⟨rfl, Up.of (N := 9) (N' := 50) [] rfl rfl (by decide) (.set (.d _) (.set (.d _) (.set (.d _) (.set (.map' rfl) (.set (.ptr' rfl) (.set (.ptr' rfl) (.set (.d _) RegsR.none))))))) (.set BlkR.map_d (.set BlkR.refl_d (.set BlkR.refl_d BlksR.at)))⟩
    · rw [if_neg (ff hc8)] at h
      try simp only [go_sem, lookM_get (e := (D.int .i64)) (ev := (D.int .i64)) keyed_int, lookM_has (e := (D.int .i64)) (ev := (D.int .i64)) keyed_int, entryM_ins (e := (D.int .i64)) (ev := (D.int .i64)) keyed_int, mupdM_set (e := (D.int .i64)) (ev := (D.int .i64)) keyed_int, lenV_mapE (e := (D.int .i64)) (ev := (D.int .i64)), rd_pos hy4, rd_ge hy4, rd_map (D.int .i64) hy4, hc8]
      cases h
      exact ⟨rfl, by simp, Up.of (N := 9) (N' := 44) [] rfl rfl (by decide) (.set (.d _) RegsR.none) BlksR.at⟩
  · rw [if_neg (ff hc2)] at h
    try simp only [go_sem, lookM_get (e := (D.int .i64)) (ev := (D.int .i64)) keyed_int, lookM_has (e := (D.int .i64)) (ev := (D.int .i64)) keyed_int, entryM_ins (e := (D.int .i64)) (ev := (D.int .i64)) keyed_int, mupdM_set (e := (D.int .i64)) (ev := (D.int .i64)) keyed_int, lenV_mapE (e := (D.int .i64)) (ev := (D.int .i64))]
    cases h
    exact ⟨rfl, by simp, Up.of (N := 9) (N' := 10) [] rfl rfl (by decide) (.set (.ptr' rfl) (.set (.ptr' rfl) RegsR.none)) (.set BlkR.refl_d (.set BlkR.refl_d BlksR.at))⟩
noncomputable def P222 (a0 : Forest) (a1 : Int) (a2 : Node) : Option (Bool) :=
  (loopV (L222_0_step a0 a1 a2) ([], 0)).bind fun r20 =>
  match r20 with
  | (.inl q22) =>
    (dec D.bool (pc prog 231 [eForest a0, eNode a2])).bind fun r23 =>
    some r23
  | (.inr q25) =>
    some false
theorem ok222 (a0 : Forest) (a1 : Int) (a2 : Node) (r : Bool) (h : P222 a0 a1 a2 = some r) : pc prog 222 [eForest a0, .int .i64 a1, eNode a2] = some (D.bool r) := by
  unfold P222 at h
  refine pc_of (fn := c222) rfl rfl ?_
  delta c222
  try simp only [go_sem]
  obtain ⟨r20, hl21, h⟩ := bs h
  refine Wp.loopR locs (n := 0) (a := c222B0) rfl (L222_0_S a0 a1 a2) (L222_0_F a0 a1 a2) (L222_0_ok a0 a1 a2) hl21 ?_ (by (repeat (first | refine Clo.block ?_ | refine Clo.seq locs rfl ?_)); (exact Clo.ret)) ?_
  · show Up 0 (L222_0_S a0 a1 a2 ([], 0)) _
    delta L222_0_S
    exact Up.of (N := 9) (N' := 9) [] rfl rfl (by decide) (.set (.d _) (.set (.d _) (.set (.d _) (.set (.map' rfl) (.set (.ptr' rfl) (.set (.ptr' rfl) (.set (.d _) RegsR.none))))))) (.set BlkR.map_d (.set BlkR.refl_d (.set BlkR.refl_d BlksR.at)))
  · rcases r20 with (q22 | q25)
    · dsimp only at h
      dsimp only [L222_0_F]
      try simp only [go_sem]
      obtain ⟨r23, hr24, h⟩ := bs h
      replace hr24 := dec_some hr24
      refine WVal_pc hr24 ?_
      try simp only [go_sem]
      cases h
      rfl
    · dsimp only at h
      dsimp only [L222_0_F]
      try simp only [go_sem]
      cases h
      rfl
noncomputable def P229 (a0 : Name) : Option (Bool) :=
  if (!(a0.local_ == [])) = true then
    (dec D.bool (pc prog 218 [.list false (([a0.space, a0.prefix_, a0.local_]).map D.str)])).bind fun r3 =>
    if r3 = true then
      some (bif (a0.prefix_ == []) then true else (!(a0.space == [])))
    else
      some false
  else
    some false
theorem ok229 (a0 : Name) (r : Bool) (h : P229 a0 = some r) : pc prog 229 [eName a0] = some (D.bool r) := by
  unfold P229 at h
  refine pc_of (fn := c229) rfl rfl ?_
  delta c229
  try simp only [go_sem]
  refine WGuard_pure (v := .ptr 0 0 0) (fun hb25 => by (simp only [go_sem, hb25]; done)) ?_
  try simp only [go_sem]
  refine WGuard_pure (v := .d (.str a0.space)) (fun hb24 => by (simp only [go_sem, hb24]; done)) ?_
  try simp only [go_sem]
  refine WGuard_pure (v := .ptr 0 0 1) (fun hb23 => by (simp only [go_sem, hb23]; done)) ?_
  try simp only [go_sem]
  refine WGuard_pure (v := .d (.str a0.prefix_)) (fun hb22 => by (simp only [go_sem, hb22]; done)) ?_
  try simp only [go_sem]
  refine WGuard_pure (v := .ptr 0 0 2) (fun hb21 => by (simp only [go_sem, hb21]; done)) ?_
  try simp only [go_sem]
  refine WGuard_pure (v := .d (.str a0.local_)) (fun hb20 => by (simp only [go_sem, hb20]; done)) ?_
  try simp only [go_sem]
  refine WGuard_splitN (fun hc1 => ?_) (fun hc2 => ?_)
  · rw [if_pos (show (!(a0.local_ == [])) = true by (rw [hc1]; rfl))] at h
    try simp only [go_sem, hc1]
    obtain ⟨r3, hr4, h⟩ := bs h
    replace hr4 := dec_some hr4
    refine WVal_pc hr4 ?_
    try simp only [go_sem]
    refine WGuard_pure (v := .ptr 0 0 1) (fun hb19 => by (simp only [go_sem, hc1, hb19]; done)) ?_
    try simp only [go_sem]
    refine WGuard_pure (v := .d (.str a0.prefix_)) (fun hb18 => by (simp only [go_sem, hc1, hb18]; done)) ?_
    try simp only [go_sem]
    refine WGuard_pure (v := .d (.bool (a0.prefix_ == []))) (fun hb17 => by (simp only [go_sem, hc1, hb17]; done)) ?_
    try simp only [go_sem]
    refine WGuard_pure (v := .d (.bool (a0.prefix_ == []))) (fun hb16 => by (simp only [go_sem, hc1, hb16]; done)) ?_
    try simp only [go_sem]
    refine WGuard_pure (v := .ptr 0 0 0) (fun hb13 => by ((obtain ⟨hb14, hb15⟩ := bif_true hb13)); (simp only [go_sem, hc1, hb15, hb14]; done)) ?_
    try simp only [go_sem]
    refine WGuard_pure (v := .d (.str a0.space)) (fun hb10 => by ((obtain ⟨hb11, hb12⟩ := bif_true hb10)); (simp only [go_sem, hc1, hb12, hb11]; done)) ?_
    try simp only [go_sem]
    refine WGuard_pure (v := .d (.bool (!(a0.space == [])))) (fun hb7 => by ((obtain ⟨hb8, hb9⟩ := bif_true hb7)); (simp only [go_sem, hc1, hb9, hb8]; done)) ?_
    try simp only [go_sem]
    refine WGuard_split (fun hc5 => ?_) (fun hc6 => ?_)
    · rw [if_pos hc5] at h
      try simp only [go_sem, hc5]
      cases h
      rfl
    · rw [if_neg (ff hc6)] at h
      try simp only [go_sem, hc6]
      cases h
      rfl
  · rw [if_neg (ffn hc2)] at h
    try simp only [go_sem, hc2]
    cases h
    rfl
noncomputable def P230 (a0 : Name) : Option (forest_key) :=
  some (⟨a0.space, a0.local_⟩ : forest_key)
theorem ok230 (a0 : Name) (r : forest_key) (h : P230 a0 = some r) : pc prog 230 [eName a0] = some (eforest_key r) := by
  unfold P230 at h
  refine pc_of (fn := c230) rfl rfl ?_
  delta c230
  try simp only [go_sem]
  cases h
  rfl
def L231_0_S (a0 : Forest) (a1 : Node) (x0 : Int × Int × Int) : St := ⟨(((((((Regs.none.set 2 (.ptr 0 0 0)).set 5 (.d (.bool (a1.kind == 9)))).set 6 (.d (.int .i64 x0.2.1))).set 7 (.d (.int .i64 x0.2.2))).set 14 (.d (.list a1.kids.n (a1.kids.l.map (D.int .i64))))).set 15 (.d (.int .i64 (a1.kids.l.length : Int)))).set 16 (.d (.int .i64 x0.1))), ((Heap.at 13).set 0 (some (.els 1 [.d (eForest a0)] 0)))⟩
def L231_0_F (a0 : Forest) (a1 : Node) : ((Int × Int) ⊕ (Unit)) → Ex × St := fun r => match r with
  | (.inl r) => (.exit 0, ⟨(((Regs.none.set 5 (.d (.bool (a1.kind == 9)))).set 6 (.d (.int .i64 r.1))).set 7 (.d (.int .i64 r.2))), (Heap.at 13)⟩)
  | (.inr r) => (.ret, ⟨(Regs.none.set 4 (.d (.bool false))), (Heap.at 13)⟩)
noncomputable def L231_0_step (a0 : Forest) (a1 : Node) (x0 : Int × Int × Int) : Option ((Int × Int × Int) ⊕ ((Int × Int) ⊕ (Unit))) :=
  if (decide (x0.1 < (a1.kids.l.length : Int))) = true then
    (rd a1.kids.l x0.1).bind fun y3 =>
    (dec (D.int .u8) (pc prog 221 [eForest a0, .int .i64 y3])).bind fun r5 =>
    if (r5 == 1) = true then
      some (.inl ((IntKind.wrap .i64 (x0.1 + 1)), (IntKind.wrap .i64 (x0.2.1 + 1)), x0.2.2))
    else
      if (r5 == 10) = true then
        if (bif (!(a1.kind == 9)) then true else (decide (0 < x0.2.1))) = true then
          some (.inr (.inr ()))
        else
          some (.inl ((IntKind.wrap .i64 (x0.1 + 1)), x0.2.1, (IntKind.wrap .i64 (x0.2.2 + 1))))
      else
        if (r5 == 3) = true then
          if (a1.kind == 9) = true then
            some (.inr (.inr ()))
          else
            some (.inl ((IntKind.wrap .i64 (x0.1 + 1)), x0.2.1, x0.2.2))
        else
          if (r5 == 4) = true then
            if (a1.kind == 9) = true then
              some (.inr (.inr ()))
            else
              some (.inl ((IntKind.wrap .i64 (x0.1 + 1)), x0.2.1, x0.2.2))
          else
            if (r5 == 8) = true then
              some (.inl ((IntKind.wrap .i64 (x0.1 + 1)), x0.2.1, x0.2.2))
            else
              if (r5 == 7) = true then
                some (.inl ((IntKind.wrap .i64 (x0.1 + 1)), x0.2.1, x0.2.2))
              else
                some (.inr (.inr ()))
  else
    some (.inr (.inl (x0.2.1, x0.2.2)))
theorem L231_0_ok (a0 : Forest) (a1 : Node) (x0 : Int × Int × Int) (o : (Int × Int × Int) ⊕ ((Int × Int) ⊕ (Unit))) (h : L231_0_step a0 a1 x0 = some o) : Wp prog c231B0 (L231_0_S a0 a1 x0) (LPost 0 (L231_0_S a0 a1) (L231_0_F a0 a1) o) := by
  unfold L231_0_step at h
  delta c231B0 L231_0_S
  try simp only [go_sem]
  refine WBr_split (fun hc1 => ?_) (fun hc2 => ?_)
  · rw [if_pos hc1] at h
    try simp only [go_sem]
    obtain ⟨y3, hy4, h⟩ := bs h
    try simp only [go_sem, rd_pos hy4, rd_ge hy4, rd_map (D.int .i64) hy4]
    obtain ⟨r5, hr6, h⟩ := bs h
    replace hr6 := dec_some hr6
    refine WVal_pc hr6 ?_
    try simp only [go_sem, rd_pos hy4, rd_ge hy4, rd_map (D.int .i64) hy4]
    refine WBr_split (fun hc7 => ?_) (fun hc8 => ?_)
    · rw [if_pos hc7] at h
      try simp only [go_sem, rd_pos hy4, rd_ge hy4, rd_map (D.int .i64) hy4]
      cases h
      exact ⟨rfl, Up.of (N := 13) (N' := 27) [] rfl rfl (by decide) (.set (.d _) (.set (.d _) (.set (.d _) (.set (.d _) (.set (.d _) (.set (.d _) (.set (.ptr' rfl) RegsR.none))))))) (.set BlkR.refl_d BlksR.at)⟩
    · rw [if_neg (ff hc8)] at h
      try simp only [go_sem, rd_pos hy4, rd_ge hy4, rd_map (D.int .i64) hy4]
      refine WBr_split (fun hc9 => ?_) (fun hc10 => ?_)
      · rw [if_pos hc9] at h
        try simp only [go_sem, rd_pos hy4, rd_ge hy4, rd_map (D.int .i64) hy4]
        refine WGuard_pure (v := .d (.int .i64 x0.2.1)) (fun hb14 => by (simp only [go_sem, rd_pos hy4, rd_ge hy4, rd_map (D.int .i64) hy4, hc1, hc8, hc9, hb14]; done)) ?_
        try simp only [go_sem, rd_pos hy4, rd_ge hy4, rd_map (D.int .i64) hy4]
        refine WGuard_pure (v := .d (.bool (decide (0 < x0.2.1)))) (fun hb13 => by (simp only [go_sem, rd_pos hy4, rd_ge hy4, rd_map (D.int .i64) hy4, hc1, hc8, hc9, hb13]; done)) ?_
        try simp only [go_sem, rd_pos hy4, rd_ge hy4, rd_map (D.int .i64) hy4]
        refine WBr_split (fun hc11 => ?_) (fun hc12 => ?_)
        · rw [if_pos hc11] at h
          try simp only [go_sem, rd_pos hy4, rd_ge hy4, rd_map (D.int .i64) hy4]
          cases h
          exact ⟨rfl, by simp, Up.of (N := 13) (N' := 31) [] rfl rfl (by decide) (.set (.d _) RegsR.none) BlksR.at⟩
        · rw [if_neg (ff hc12)] at h
          try simp only [go_sem, rd_pos hy4, rd_ge hy4, rd_map (D.int .i64) hy4]
          cases h
          exact ⟨rfl, Up.of (N := 13) (N' := 35) [] rfl rfl (by decide) (.set (.d _) (.set (.d _) (.set (.d _) (.set (.d _) (.set (.d _) (.set (.d _) (.set (.ptr' rfl) RegsR.none))))))) (.set BlkR.refl_d BlksR.at)⟩
      · rw [if_neg (ff hc10)] at h
        try simp only [go_sem, rd_pos hy4, rd_ge hy4, rd_map (D.int .i64) hy4]
        refine WBr_split (fun hc15 => ?_) (fun hc16 => ?_)
        · rw [if_pos hc15] at h
          try simp only [go_sem, rd_pos hy4, rd_ge hy4, rd_map (D.int .i64) hy4]
          try simp only [go_sem, rd_pos hy4, rd_ge hy4, rd_map (D.int .i64) hy4, hc1, hc8, hc10, hc15]
          refine WBr_split (fun hc17 => ?_) (fun hc18 => ?_)
          · rw [if_pos hc17] at h
            try simp only [go_sem, rd_pos hy4, rd_ge hy4, rd_map (D.int .i64) hy4]
            cases h
            exact ⟨rfl, by simp, Up.of (N := 13) (N' := 28) [] rfl rfl (by decide) (.set (.d _) RegsR.none) BlksR.at⟩
          · rw [if_neg (ff hc18)] at h
            try simp only [go_sem, rd_pos hy4, rd_ge hy4, rd_map (D.int .i64) hy4]
            cases h
            exact ⟨rfl, Up.of (N := 13) (N' := 29) [] rfl rfl (by decide) (.set (.d _) (.set (.d _) (.set (.d _) (.set (.d _) (.set (.d _) (.set (.d _) (.set (.ptr' rfl) RegsR.none))))))) (.set BlkR.refl_d BlksR.at)⟩
        · rw [if_neg (ff hc16)] at h
          try simp only [go_sem, rd_pos hy4, rd_ge hy4, rd_map (D.int .i64) hy4]
          refine WBr_split (fun hc19 => ?_) (fun hc20 => ?_)
          · rw [if_pos hc19] at h
            try simp only [go_sem, rd_pos hy4, rd_ge hy4, rd_map (D.int .i64) hy4]
            refine WBr_split (fun hc21 => ?_) (fun hc22 => ?_)
            · rw [if_pos hc21] at h
              try simp only [go_sem, rd_pos hy4, rd_ge hy4, rd_map (D.int .i64) hy4]
              cases h
              exact ⟨rfl, by simp, Up.of (N := 13) (N' := 30) [] rfl rfl (by decide) (.set (.d _) RegsR.none) BlksR.at⟩
            · rw [if_neg (ff hc22)] at h
              try simp only [go_sem, rd_pos hy4, rd_ge hy4, rd_map (D.int .i64) hy4]
              cases h
              exact ⟨rfl, Up.of (N := 13) (N' := 31) [] rfl rfl (by decide) (.set (.d _) (.set (.d _) (.set (.d _) (.set (.d _) (.set (.d _) (.set (.d _) (.set (.ptr' rfl) RegsR.none))))))) (.set BlkR.refl_d BlksR.at)⟩
          · rw [if_neg (ff hc20)] at h
            try simp only [go_sem, rd_pos hy4, rd_ge hy4, rd_map (D.int .i64) hy4]
            refine WBr_split (fun hc23 => ?_) (fun hc24 => ?_)
            · rw [if_pos hc23] at h
              try simp only [go_sem, rd_pos hy4, rd_ge hy4, rd_map (D.int .i64) hy4]
              try simp only [go_sem, rd_pos hy4, rd_ge hy4, rd_map (D.int .i64) hy4, hc1, hc8, hc10, hc16, hc20, hc23]
              cases h
              exact ⟨rfl, Up.of (N := 13) (N' := 32) [] rfl rfl (by decide) (.set (.d _) (.set (.d _) (.set (.d _) (.set (.d _) (.set (.d _) (.set (.d _) (.set (.ptr' rfl) RegsR.none))))))) (.set BlkR.refl_d BlksR.at)⟩
            · rw [if_neg (ff hc24)] at h
              try simp only [go_sem, rd_pos hy4, rd_ge hy4, rd_map (D.int .i64) hy4]
              refine WBr_split (fun hc25 => ?_) (fun hc26 => ?_)
              · rw [if_pos hc25] at h
                try simp only [go_sem, rd_pos hy4, rd_ge hy4, rd_map (D.int .i64) hy4]
                cases h
                exact ⟨rfl, Up.of (N := 13) (N' := 34) [] rfl rfl (by decide) (.set (.d _) (.set (.d _) (.set (.d _) (.set (.d _) (.set (.d _) (.set (.d _) (.set (.ptr' rfl) RegsR.none))))))) (.set BlkR.refl_d BlksR.at)⟩
              · rw [if_neg (ff hc26)] at h
                try simp only [go_sem, rd_pos hy4, rd_ge hy4, rd_map (D.int .i64) hy4]
                cases h
                exact ⟨rfl, by simp, Up.of (N := 13) (N' := 33) [] rfl rfl (by decide) (.set (.d _) RegsR.none) BlksR.at⟩
  · rw [if_neg (ff hc2)] at h
    try simp only [go_sem]
    cases h
    exact ⟨rfl, by simp, Up.of (N := 13) (N' := 14) [] rfl rfl (by decide) (.set (.d _) (.set (.d _) (.set (.d _) RegsR.none))) BlksR.at⟩
noncomputable def P231 (a0 : Forest) (a1 : Node) : Option (Bool) :=
  (loopV (L231_0_step a0 a1) (0, 0, 0)).bind fun r27 =>
  match r27 with
  | (.inl q29) =>
    if (a1.kind == 9) = true then
      some (bif (decide (q29.1 < 2)) then (decide (q29.2 < 2)) else false)
    else
      some true
  | (.inr q41) =>
    some false
theorem ok231 (a0 : Forest) (a1 : Node) (r : Bool) (h : P231 a0 a1 = some r) : pc prog 231 [eForest a0, eNode a1] = some (D.bool r) := by
  unfold P231 at h
  refine pc_of (fn := c231) rfl rfl ?_
  delta c231
  try simp only [go_sem]
  obtain ⟨r27, hl28, h⟩ := bs h
  refine Wp.loopR locs (n := 0) (a := c231B0) rfl (L231_0_S a0 a1) (L231_0_F a0 a1) (L231_0_ok a0 a1) hl28 ?_ (by (repeat (first | refine Clo.block ?_ | refine Clo.seq locs rfl ?_)); (exact Clo.ret)) ?_
  · show Up 0 (L231_0_S a0 a1 (0, 0, 0)) _
    delta L231_0_S
    exact Up.of (N := 13) (N' := 13) [] rfl rfl (by decide) (.set (.d _) (.set (.d _) (.set (.d _) (.set (.d _) (.set (.d _) (.set (.d _) (.set (.ptr' rfl) RegsR.none))))))) (.set BlkR.refl_d BlksR.at)
  · rcases r27 with (q29 | q41)
    · dsimp only at h
      dsimp only [L231_0_F]
      try simp only [go_sem]
      refine WGuard_pure (v := .d (.int .i64 q29.1)) (fun hb40 => by (simp only [go_sem, hb40]; done)) ?_
      try simp only [go_sem]
      refine WGuard_pure (v := .d (.bool (decide (q29.1 < 2)))) (fun hb39 => by (simp only [go_sem, hb39]; done)) ?_
      try simp only [go_sem]
      refine WGuard_pure (v := .d (.bool (decide (q29.1 < 2)))) (fun hb38 => by (simp only [go_sem, hb38]; done)) ?_
      try simp only [go_sem]
      refine WGuard_pure (v := .d (.int .i64 q29.2)) (fun hb35 => by ((obtain ⟨hb36, hb37⟩ := bif_true hb35)); (simp only [go_sem, hb37, hb36]; done)) ?_
      try simp only [go_sem]
      refine WGuard_pure (v := .d (.bool (decide (q29.2 < 2)))) (fun hb32 => by ((obtain ⟨hb33, hb34⟩ := bif_true hb32)); (simp only [go_sem, hb34, hb33]; done)) ?_
      try simp only [go_sem]
      refine WGuard_split (fun hc30 => ?_) (fun hc31 => ?_)
      · rw [if_pos hc30] at h
        try simp only [go_sem, hc30]
        cases h
        rfl
      · rw [if_neg (ff hc31)] at h
        try simp only [go_sem, hc31]
        cases h
        rfl
    · dsimp only at h
      dsimp only [L231_0_F]
      try simp only [go_sem]
      cases h
      rfl
end Go.Proofs.Ytfleilibjdgcjaa.O
