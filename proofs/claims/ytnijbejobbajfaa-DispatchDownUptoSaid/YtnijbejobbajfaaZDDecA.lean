/- Shaken copy of a longer text: what one law needs. Its conditions: none. -/
import Derived.Test.YtnijbejobbajfaaZDDec0
set_option linter.unusedSimpArgs false
set_option linter.unusedVariables false
set_option maxHeartbeats 1000000
namespace Go.Proofs.Ytnijbejobbajfaa.D
open Go.AI
def L50_1_S (a4 : Sl (Effects)) (x0 : Listeners × Run × List (Call)) (r17 : Run × Listeners × Call × Bool × Int) (x1 : Int) : St := ⟨((((Regs.none.set 0 (.d (.list a4.n (a4.l.map eEffects)))).set 1 (.clo 84 [] [.ptr 35 0 0])).set 7 (.d (.int .i64 (a4.l.length : Int)))).set 8 (.d (.int .i64 x1))), (((((((((Heap.at 60).set 0 (some (.els 2 [.d (eListeners r17.2.1)] 0))).set 3 (some (.els 2 [.d (.agg [.list true [], .int .i64 (0)])] 0))).set 4 (some (.els 13 [.d (.agg [.str ([]), .bool false, .bool false, .bool false, .bool false, .bool false, .bool false, .bool false, .bool false, .int .u8 (0), .int .i64 (0), .int .i64 (0), .int .i64 (0)])] 0))).set 14 (some (.els 17 [.d (eRun r17.1)] 0))).set 33 (some (.els 17 [.d (eRun r17.1)] 0))).set 34 (some (.els 2 [.d (eListeners r17.2.1)] 0))).set 35 (some (.els 3 [.d (eCall r17.2.2.1)] 0))).set 50 (some (.els 3 ((x0.2.2 ++ [r17.2.2.1]).map fun z => V.d (eCall z)) x0.2.2.length)))⟩
def L50_1_F (a4 : Sl (Effects)) (x0 : Listeners × Run × List (Call)) (r17 : Run × Listeners × Call × Bool × Int) : ((Unit) ⊕ (Int)) → Ex × St := fun r => match r with
  | (.inl r) => (.exit 0, ⟨Regs.none, (((((((((Heap.at 60).set 0 (some (.els 2 [.d (eListeners r17.2.1)] 0))).set 3 (some (.els 2 [.d (.agg [.list true [], .int .i64 (0)])] 0))).set 4 (some (.els 13 [.d (.agg [.str ([]), .bool false, .bool false, .bool false, .bool false, .bool false, .bool false, .bool false, .bool false, .int .u8 (0), .int .i64 (0), .int .i64 (0), .int .i64 (0)])] 0))).set 14 (some (.els 17 [.d (eRun r17.1)] 0))).set 33 (some (.els 17 [.d (eRun r17.1)] 0))).set 34 (some (.els 2 [.d (eListeners r17.2.1)] 0))).set 35 (some (.els 3 [.d (eCall r17.2.2.1)] 0))).set 50 (some (.els 3 ((x0.2.2 ++ [r17.2.2.1]).map fun z => V.d (eCall z)) x0.2.2.length)))⟩)
  | (.inr r) => (.ret, ⟨(Regs.none.set 4 (.d (.int .i64 r))), (((((((((Heap.at 60).set 0 (some (.els 2 [.d (eListeners r17.2.1)] 0))).set 3 (some (.els 2 [.d (.agg [.list true [], .int .i64 (0)])] 0))).set 4 (some (.els 13 [.d (.agg [.str ([]), .bool false, .bool false, .bool false, .bool false, .bool false, .bool false, .bool false, .bool false, .int .u8 (0), .int .i64 (0), .int .i64 (0), .int .i64 (0)])] 0))).set 14 (some (.els 17 [.d (eRun r17.1)] 0))).set 33 (some (.els 17 [.d (eRun r17.1)] 0))).set 34 (some (.els 2 [.d (eListeners r17.2.1)] 0))).set 35 (some (.els 3 [.d (eCall r17.2.2.1)] 0))).set 50 (some (.els 3 ((x0.2.2 ++ [r17.2.2.1]).map fun z => V.d (eCall z)) x0.2.2.length)))⟩)
noncomputable def L50_1_step (a4 : Sl (Effects)) (x0 : Listeners × Run × List (Call)) (r17 : Run × Listeners × Call × Bool × Int) (x1 : Int) : Option ((Int) ⊕ ((Unit) ⊕ (Int))) :=
  if (decide (x1 < (a4.l.length : Int))) = true then
    (rd a4.l x1).bind fun y24 =>
    if (y24.callback == r17.2.2.1.callback) = true then
      some (.inr (.inr x1))
    else
      some (.inl (IntKind.wrap .i64 (x1 + 1)))
  else
    some (.inr (.inl ()))
theorem L50_1_ok (a4 : Sl (Effects)) (x0 : Listeners × Run × List (Call)) (r17 : Run × Listeners × Call × Bool × Int) (x1 : Int) (o : (Int) ⊕ ((Unit) ⊕ (Int))) (h : L50_1_step a4 x0 r17 x1 = some o) : Wp prog c83B0 (L50_1_S a4 x0 r17 x1) (LPost 56 (L50_1_S a4 x0 r17) (L50_1_F a4 x0 r17) o) := by
  unfold L50_1_step at h
  delta c83B0 L50_1_S
  try simp only [go_sem]
  first | refine WBr_splitN (fun hc22 => ?_) (fun hc23 => ?_) | refine WBr_split (fun hc22 => ?_) (fun hc23 => ?_)
  · rw [if_pos (show (decide (x1 < (a4.l.length : Int))) = true by first | exact hc22 | simpa using hc22)] at h
    try simp only [go_sem]
    obtain ⟨y24, hy25, h⟩ := Option.bind_eq_some_iff.1 h
    try simp only [go_sem, rd_pos hy25, rd_ge hy25, rd_map eEffects hy25]
    refine WVal_inlC (fn := c84) rfl rfl ?_
    delta c84
    try simp only [go_sem, rd_pos hy25, rd_ge hy25, rd_map eEffects hy25]
    first | refine WBr_splitN (fun hc26 => ?_) (fun hc27 => ?_) | refine WBr_split (fun hc26 => ?_) (fun hc27 => ?_)
    · rw [if_pos (show (y24.callback == r17.2.2.1.callback) = true by first | exact hc26 | simpa using hc26)] at h
      try simp only [go_sem, rd_pos hy25, rd_ge hy25, rd_map eEffects hy25]
      cases h
      refine ⟨rfl, by simp, Up.of (N := 60) (N' := 79) [] rfl rfl (by decide) ?_ ?_⟩
      · refine RegsR.set ?_ RegsR.none
        all_goals (try simp only [go_sem, List.map_append, List.map_cons, List.map_nil, rd_pos hy25, rd_ge hy25, rd_map eEffects hy25])
        all_goals (first | exact VR.d _ | (simp only [eListeners, eListener, eEvent, eRun, eCall, eStep, eEffects, elisten_place, hc22, hc26]; exact VR.d _))
      · refine BlksR.set (show BlkR _ _ (Heap.get _ 50) from ?_) (BlksR.set (show BlkR _ _ (Heap.get _ 35) from ?_) (BlksR.set (show BlkR _ _ (Heap.get _ 34) from ?_) (BlksR.set (show BlkR _ _ (Heap.get _ 33) from ?_) (BlksR.set (show BlkR _ _ (Heap.get _ 14) from ?_) (BlksR.set (show BlkR _ _ (Heap.get _ 4) from ?_) (BlksR.set (show BlkR _ _ (Heap.get _ 3) from ?_) (BlksR.set (show BlkR _ _ (Heap.get _ 0) from ?_) (BlksR.at))))))))
        all_goals (try simp only [go_sem, List.map_append, List.map_cons, List.map_nil, rd_pos hy25, rd_ge hy25, rd_map eEffects hy25])
        all_goals (first | trivial | exact BlkR.refl_d | exact BlkR.map_d | exact BlkR.map_0 | exact BR.map .nil | (refine BlkR.els (Nat.le_refl _) (VRL.cons ?_ VRL.nil); (first | exact VR.d _ | exact VR.ptr' rfl | exact VR.mb rfl | exact VR.sl'' rfl (by simp) | exact VR.mb_sl (by simp) rfl (by simp) | exact VR.undef _ | (refine VR.clo' ?_ ?_ <;> (repeat (first | refine VRL.append ?_ ?_ | exact VRL.nil | refine VRL.cons (by first | exact VR.d _ | exact VR.ptr' rfl | exact VR.mb rfl | exact VR.sl'' rfl (by simp) | exact VR.mb_sl (by simp) rfl (by simp) | exact VR.undef _) ?_ | exact VRL.refl_d _ _)); done) | (refine VRL.ofC ?_; (repeat (first | refine VRL.append ?_ ?_ | exact VRL.nil | refine VRL.cons (by first | exact VR.d _ | exact VR.ptr' rfl | exact VR.mb rfl | exact VR.sl'' rfl (by simp) | exact VR.mb_sl (by simp) rfl (by simp) | exact VR.undef _) ?_ | exact VRL.refl_d _ _)); done) | (refine VRL.ofCa ?_ rfl; (repeat (first | refine VRL.append ?_ ?_ | exact VRL.nil | refine VRL.cons (by first | exact VR.d _ | exact VR.ptr' rfl | exact VR.mb rfl | exact VR.sl'' rfl (by simp) | exact VR.mb_sl (by simp) rfl (by simp) | exact VR.undef _) ?_ | exact VRL.refl_d _ _)); done) | (refine VRL.ofCells ?_; (repeat (first | refine VRL.append ?_ ?_ | exact VRL.nil | refine VRL.cons (by first | exact VR.d _ | exact VR.ptr' rfl | exact VR.mb rfl | exact VR.sl'' rfl (by simp) | exact VR.mb_sl (by simp) rfl (by simp) | exact VR.undef _) ?_ | exact VRL.refl_d _ _)); done) | (refine VRL.tuple ?_; (repeat (first | refine VRL.append ?_ ?_ | exact VRL.nil | refine VRL.cons (by first | exact VR.d _ | exact VR.ptr' rfl | exact VR.mb rfl | exact VR.sl'' rfl (by simp) | exact VR.mb_sl (by simp) rfl (by simp) | exact VR.undef _) ?_ | exact VRL.refl_d _ _)); done) | (refine VRL.agg ?_; (repeat (first | refine VRL.append ?_ ?_ | exact VRL.nil | refine VRL.cons (by first | exact VR.d _ | exact VR.ptr' rfl | exact VR.mb rfl | exact VR.sl'' rfl (by simp) | exact VR.mb_sl (by simp) rfl (by simp) | exact VR.undef _) ?_ | exact VRL.refl_d _ _)); done)); done) | (refine BlkR.els (by simp) ?_; (repeat (first | refine VRL.append ?_ ?_ | exact VRL.nil | refine VRL.cons (by first | exact VR.d _ | exact VR.ptr' rfl | exact VR.mb rfl | exact VR.sl'' rfl (by simp) | exact VR.mb_sl (by simp) rfl (by simp) | exact VR.undef _) ?_ | exact VRL.refl_d _ _)); done) | (refine BlkR.mb_els (by simp) ?_; (repeat (first | refine VRL.append ?_ ?_ | exact VRL.nil | refine VRL.cons (by first | exact VR.d _ | exact VR.ptr' rfl | exact VR.mb rfl | exact VR.sl'' rfl (by simp) | exact VR.mb_sl (by simp) rfl (by simp) | exact VR.undef _) ?_ | exact VRL.refl_d _ _)); done) | (refine BlkR.mb (by simp) ?_; (repeat (first | refine VRL.append ?_ ?_ | exact VRL.nil | refine VRL.cons (by first | exact VR.d _ | exact VR.ptr' rfl | exact VR.mb rfl | exact VR.sl'' rfl (by simp) | exact VR.mb_sl (by simp) rfl (by simp) | exact VR.undef _) ?_ | exact VRL.refl_d _ _)); done) | (simp only [eListeners, eListener, eEvent, eRun, eCall, eStep, eEffects, elisten_place, hc22, hc26]; exact BlkR.refl_d))
    · rw [if_neg (show ¬ (y24.callback == r17.2.2.1.callback) = true by first | (rw [hc27]; exact Bool.false_ne_true) | simpa using hc27 | (simp at hc27 ⊢; omega))] at h
      try simp only [go_sem, rd_pos hy25, rd_ge hy25, rd_map eEffects hy25]
      cases h
      refine ⟨rfl, Up.of (N := 60) (N' := 79) [] rfl rfl (by decide) ?_ ?_⟩
      · refine RegsR.set ?_ (RegsR.set ?_ (RegsR.set ?_ (RegsR.set ?_ RegsR.none)))
        all_goals (try simp only [go_sem, List.map_append, List.map_cons, List.map_nil, rd_pos hy25, rd_ge hy25, rd_map eEffects hy25])
        all_goals (first | exact VR.d _ | exact VR.ptr' rfl | exact VR.mb rfl | exact VR.sl'' rfl (by simp) | exact VR.mb_sl (by simp) rfl (by simp) | exact VR.undef _ | (refine VR.clo' ?_ ?_ <;> (repeat (first | refine VRL.append ?_ ?_ | exact VRL.nil | refine VRL.cons (by first | exact VR.d _ | exact VR.ptr' rfl | exact VR.mb rfl | exact VR.sl'' rfl (by simp) | exact VR.mb_sl (by simp) rfl (by simp) | exact VR.undef _) ?_ | exact VRL.refl_d _ _)); done) | (refine VRL.ofC ?_; (repeat (first | refine VRL.append ?_ ?_ | exact VRL.nil | refine VRL.cons (by first | exact VR.d _ | exact VR.ptr' rfl | exact VR.mb rfl | exact VR.sl'' rfl (by simp) | exact VR.mb_sl (by simp) rfl (by simp) | exact VR.undef _) ?_ | exact VRL.refl_d _ _)); done) | (refine VRL.ofCa ?_ rfl; (repeat (first | refine VRL.append ?_ ?_ | exact VRL.nil | refine VRL.cons (by first | exact VR.d _ | exact VR.ptr' rfl | exact VR.mb rfl | exact VR.sl'' rfl (by simp) | exact VR.mb_sl (by simp) rfl (by simp) | exact VR.undef _) ?_ | exact VRL.refl_d _ _)); done) | (refine VRL.ofCells ?_; (repeat (first | refine VRL.append ?_ ?_ | exact VRL.nil | refine VRL.cons (by first | exact VR.d _ | exact VR.ptr' rfl | exact VR.mb rfl | exact VR.sl'' rfl (by simp) | exact VR.mb_sl (by simp) rfl (by simp) | exact VR.undef _) ?_ | exact VRL.refl_d _ _)); done) | (refine VRL.tuple ?_; (repeat (first | refine VRL.append ?_ ?_ | exact VRL.nil | refine VRL.cons (by first | exact VR.d _ | exact VR.ptr' rfl | exact VR.mb rfl | exact VR.sl'' rfl (by simp) | exact VR.mb_sl (by simp) rfl (by simp) | exact VR.undef _) ?_ | exact VRL.refl_d _ _)); done) | (refine VRL.agg ?_; (repeat (first | refine VRL.append ?_ ?_ | exact VRL.nil | refine VRL.cons (by first | exact VR.d _ | exact VR.ptr' rfl | exact VR.mb rfl | exact VR.sl'' rfl (by simp) | exact VR.mb_sl (by simp) rfl (by simp) | exact VR.undef _) ?_ | exact VRL.refl_d _ _)); done) | (simp only [eListeners, eListener, eEvent, eRun, eCall, eStep, eEffects, elisten_place, hc22, hc27]; exact VR.d _))
      · refine BlksR.set (show BlkR _ _ (Heap.get _ 50) from ?_) (BlksR.set (show BlkR _ _ (Heap.get _ 35) from ?_) (BlksR.set (show BlkR _ _ (Heap.get _ 34) from ?_) (BlksR.set (show BlkR _ _ (Heap.get _ 33) from ?_) (BlksR.set (show BlkR _ _ (Heap.get _ 14) from ?_) (BlksR.set (show BlkR _ _ (Heap.get _ 4) from ?_) (BlksR.set (show BlkR _ _ (Heap.get _ 3) from ?_) (BlksR.set (show BlkR _ _ (Heap.get _ 0) from ?_) (BlksR.at))))))))
        all_goals (try simp only [go_sem, List.map_append, List.map_cons, List.map_nil, rd_pos hy25, rd_ge hy25, rd_map eEffects hy25])
        all_goals (first | trivial | exact BlkR.refl_d | exact BlkR.map_d | exact BlkR.map_0 | exact BR.map .nil | (refine BlkR.els (Nat.le_refl _) (VRL.cons ?_ VRL.nil); (first | exact VR.d _ | exact VR.ptr' rfl | exact VR.mb rfl | exact VR.sl'' rfl (by simp) | exact VR.mb_sl (by simp) rfl (by simp) | exact VR.undef _ | (refine VR.clo' ?_ ?_ <;> (repeat (first | refine VRL.append ?_ ?_ | exact VRL.nil | refine VRL.cons (by first | exact VR.d _ | exact VR.ptr' rfl | exact VR.mb rfl | exact VR.sl'' rfl (by simp) | exact VR.mb_sl (by simp) rfl (by simp) | exact VR.undef _) ?_ | exact VRL.refl_d _ _)); done) | (refine VRL.ofC ?_; (repeat (first | refine VRL.append ?_ ?_ | exact VRL.nil | refine VRL.cons (by first | exact VR.d _ | exact VR.ptr' rfl | exact VR.mb rfl | exact VR.sl'' rfl (by simp) | exact VR.mb_sl (by simp) rfl (by simp) | exact VR.undef _) ?_ | exact VRL.refl_d _ _)); done) | (refine VRL.ofCa ?_ rfl; (repeat (first | refine VRL.append ?_ ?_ | exact VRL.nil | refine VRL.cons (by first | exact VR.d _ | exact VR.ptr' rfl | exact VR.mb rfl | exact VR.sl'' rfl (by simp) | exact VR.mb_sl (by simp) rfl (by simp) | exact VR.undef _) ?_ | exact VRL.refl_d _ _)); done) | (refine VRL.ofCells ?_; (repeat (first | refine VRL.append ?_ ?_ | exact VRL.nil | refine VRL.cons (by first | exact VR.d _ | exact VR.ptr' rfl | exact VR.mb rfl | exact VR.sl'' rfl (by simp) | exact VR.mb_sl (by simp) rfl (by simp) | exact VR.undef _) ?_ | exact VRL.refl_d _ _)); done) | (refine VRL.tuple ?_; (repeat (first | refine VRL.append ?_ ?_ | exact VRL.nil | refine VRL.cons (by first | exact VR.d _ | exact VR.ptr' rfl | exact VR.mb rfl | exact VR.sl'' rfl (by simp) | exact VR.mb_sl (by simp) rfl (by simp) | exact VR.undef _) ?_ | exact VRL.refl_d _ _)); done) | (refine VRL.agg ?_; (repeat (first | refine VRL.append ?_ ?_ | exact VRL.nil | refine VRL.cons (by first | exact VR.d _ | exact VR.ptr' rfl | exact VR.mb rfl | exact VR.sl'' rfl (by simp) | exact VR.mb_sl (by simp) rfl (by simp) | exact VR.undef _) ?_ | exact VRL.refl_d _ _)); done)); done) | (refine BlkR.els (by simp) ?_; (repeat (first | refine VRL.append ?_ ?_ | exact VRL.nil | refine VRL.cons (by first | exact VR.d _ | exact VR.ptr' rfl | exact VR.mb rfl | exact VR.sl'' rfl (by simp) | exact VR.mb_sl (by simp) rfl (by simp) | exact VR.undef _) ?_ | exact VRL.refl_d _ _)); done) | (refine BlkR.mb_els (by simp) ?_; (repeat (first | refine VRL.append ?_ ?_ | exact VRL.nil | refine VRL.cons (by first | exact VR.d _ | exact VR.ptr' rfl | exact VR.mb rfl | exact VR.sl'' rfl (by simp) | exact VR.mb_sl (by simp) rfl (by simp) | exact VR.undef _) ?_ | exact VRL.refl_d _ _)); done) | (refine BlkR.mb (by simp) ?_; (repeat (first | refine VRL.append ?_ ?_ | exact VRL.nil | refine VRL.cons (by first | exact VR.d _ | exact VR.ptr' rfl | exact VR.mb rfl | exact VR.sl'' rfl (by simp) | exact VR.mb_sl (by simp) rfl (by simp) | exact VR.undef _) ?_ | exact VRL.refl_d _ _)); done) | (simp only [eListeners, eListener, eEvent, eRun, eCall, eStep, eEffects, elisten_place, hc22, hc27]; exact BlkR.refl_d))
  · rw [if_neg (show ¬ (decide (x1 < (a4.l.length : Int))) = true by first | (rw [hc23]; exact Bool.false_ne_true) | simpa using hc23 | (simp at hc23 ⊢; omega))] at h
    try simp only [go_sem]
    cases h
    refine ⟨rfl, by simp, Up.of (N := 60) (N' := 61) [] rfl rfl (by decide) ?_ ?_⟩
    · exact RegsR.none
    · refine BlksR.set (show BlkR _ _ (Heap.get _ 50) from ?_) (BlksR.set (show BlkR _ _ (Heap.get _ 35) from ?_) (BlksR.set (show BlkR _ _ (Heap.get _ 34) from ?_) (BlksR.set (show BlkR _ _ (Heap.get _ 33) from ?_) (BlksR.set (show BlkR _ _ (Heap.get _ 14) from ?_) (BlksR.set (show BlkR _ _ (Heap.get _ 4) from ?_) (BlksR.set (show BlkR _ _ (Heap.get _ 3) from ?_) (BlksR.set (show BlkR _ _ (Heap.get _ 0) from ?_) (BlksR.at))))))))
      all_goals (try simp only [go_sem, List.map_append, List.map_cons, List.map_nil])
      all_goals (first | trivial | exact BlkR.refl_d | exact BlkR.map_d | exact BlkR.map_0 | exact BR.map .nil | (refine BlkR.els (Nat.le_refl _) (VRL.cons ?_ VRL.nil); (first | exact VR.d _ | exact VR.ptr' rfl | exact VR.mb rfl | exact VR.sl'' rfl (by simp) | exact VR.mb_sl (by simp) rfl (by simp) | exact VR.undef _ | (refine VR.clo' ?_ ?_ <;> (repeat (first | refine VRL.append ?_ ?_ | exact VRL.nil | refine VRL.cons (by first | exact VR.d _ | exact VR.ptr' rfl | exact VR.mb rfl | exact VR.sl'' rfl (by simp) | exact VR.mb_sl (by simp) rfl (by simp) | exact VR.undef _) ?_ | exact VRL.refl_d _ _)); done) | (refine VRL.ofC ?_; (repeat (first | refine VRL.append ?_ ?_ | exact VRL.nil | refine VRL.cons (by first | exact VR.d _ | exact VR.ptr' rfl | exact VR.mb rfl | exact VR.sl'' rfl (by simp) | exact VR.mb_sl (by simp) rfl (by simp) | exact VR.undef _) ?_ | exact VRL.refl_d _ _)); done) | (refine VRL.ofCa ?_ rfl; (repeat (first | refine VRL.append ?_ ?_ | exact VRL.nil | refine VRL.cons (by first | exact VR.d _ | exact VR.ptr' rfl | exact VR.mb rfl | exact VR.sl'' rfl (by simp) | exact VR.mb_sl (by simp) rfl (by simp) | exact VR.undef _) ?_ | exact VRL.refl_d _ _)); done) | (refine VRL.ofCells ?_; (repeat (first | refine VRL.append ?_ ?_ | exact VRL.nil | refine VRL.cons (by first | exact VR.d _ | exact VR.ptr' rfl | exact VR.mb rfl | exact VR.sl'' rfl (by simp) | exact VR.mb_sl (by simp) rfl (by simp) | exact VR.undef _) ?_ | exact VRL.refl_d _ _)); done) | (refine VRL.tuple ?_; (repeat (first | refine VRL.append ?_ ?_ | exact VRL.nil | refine VRL.cons (by first | exact VR.d _ | exact VR.ptr' rfl | exact VR.mb rfl | exact VR.sl'' rfl (by simp) | exact VR.mb_sl (by simp) rfl (by simp) | exact VR.undef _) ?_ | exact VRL.refl_d _ _)); done) | (refine VRL.agg ?_; (repeat (first | refine VRL.append ?_ ?_ | exact VRL.nil | refine VRL.cons (by first | exact VR.d _ | exact VR.ptr' rfl | exact VR.mb rfl | exact VR.sl'' rfl (by simp) | exact VR.mb_sl (by simp) rfl (by simp) | exact VR.undef _) ?_ | exact VRL.refl_d _ _)); done)); done) | (refine BlkR.els (by simp) ?_; (repeat (first | refine VRL.append ?_ ?_ | exact VRL.nil | refine VRL.cons (by first | exact VR.d _ | exact VR.ptr' rfl | exact VR.mb rfl | exact VR.sl'' rfl (by simp) | exact VR.mb_sl (by simp) rfl (by simp) | exact VR.undef _) ?_ | exact VRL.refl_d _ _)); done) | (refine BlkR.mb_els (by simp) ?_; (repeat (first | refine VRL.append ?_ ?_ | exact VRL.nil | refine VRL.cons (by first | exact VR.d _ | exact VR.ptr' rfl | exact VR.mb rfl | exact VR.sl'' rfl (by simp) | exact VR.mb_sl (by simp) rfl (by simp) | exact VR.undef _) ?_ | exact VRL.refl_d _ _)); done) | (refine BlkR.mb (by simp) ?_; (repeat (first | refine VRL.append ?_ ?_ | exact VRL.nil | refine VRL.cons (by first | exact VR.d _ | exact VR.ptr' rfl | exact VR.mb rfl | exact VR.sl'' rfl (by simp) | exact VR.mb_sl (by simp) rfl (by simp) | exact VR.undef _) ?_ | exact VRL.refl_d _ _)); done) | (simp only [eListeners, eListener, eEvent, eRun, eCall, eStep, eEffects, elisten_place, hc23]; exact BlkR.refl_d))
def L50_2_S (a4 : Sl (Effects)) (x0 : Listeners × Run × List (Call)) (r17 : Run × Listeners × Call × Bool × Int) (q31 : Int) (y34 : Effects) (x2 : Run × Int) : St := ⟨((((((((((Regs.none.set 4 (.d (.list a4.n (a4.l.map eEffects)))).set 5 (.ptr 0 0 0)).set 11 (.ptr 3 0 0)).set 12 (.ptr 4 0 0)).set 15 (.ptr 14 0 0)).set 17 (.sl 50 0 ((x0.2.2 ++ [r17.2.2.1]).length))).set 23 (.d (.int .i64 q31))).set 77 (.d (.list y34.does.n (y34.does.l.map (D.int .u8))))).set 78 (.d (.int .i64 (y34.does.l.length : Int)))).set 79 (.d (.int .i64 x2.2))), ((((((Heap.at 69).set 0 (some (.els 2 [.d (eListeners r17.2.1)] 0))).set 3 (some (.els 2 [.d (.agg [.list true [], .int .i64 (0)])] 0))).set 4 (some (.els 13 [.d (.agg [.str ([]), .bool false, .bool false, .bool false, .bool false, .bool false, .bool false, .bool false, .bool false, .int .u8 (0), .int .i64 (0), .int .i64 (0), .int .i64 (0)])] 0))).set 14 (some (.els 17 [.d (eRun x2.1)] 0))).set 50 (some (.els 3 ((x0.2.2 ++ [r17.2.2.1]).map fun z => V.d (eCall z)) x0.2.2.length)))⟩
def L50_2_F (a4 : Sl (Effects)) (x0 : Listeners × Run × List (Call)) (r17 : Run × Listeners × Call × Bool × Int) (q31 : Int) (y34 : Effects) : ((Run)) → Ex × St := fun r => (.exit 2, ⟨(((((((Regs.none.set 4 (.d (.list a4.n (a4.l.map eEffects)))).set 5 (.ptr 0 0 0)).set 11 (.ptr 3 0 0)).set 12 (.ptr 4 0 0)).set 15 (.ptr 14 0 0)).set 17 (.sl 50 0 ((x0.2.2 ++ [r17.2.2.1]).length))).set 23 (.d (.int .i64 q31))), ((((((Heap.at 69).set 0 (some (.els 2 [.d (eListeners r17.2.1)] 0))).set 3 (some (.els 2 [.d (.agg [.list true [], .int .i64 (0)])] 0))).set 4 (some (.els 13 [.d (.agg [.str ([]), .bool false, .bool false, .bool false, .bool false, .bool false, .bool false, .bool false, .bool false, .int .u8 (0), .int .i64 (0), .int .i64 (0), .int .i64 (0)])] 0))).set 14 (some (.els 17 [.d (eRun r)] 0))).set 50 (some (.els 3 ((x0.2.2 ++ [r17.2.2.1]).map fun z => V.d (eCall z)) x0.2.2.length)))⟩)
noncomputable def L50_2_step (a4 : Sl (Effects)) (x0 : Listeners × Run × List (Call)) (r17 : Run × Listeners × Call × Bool × Int) (q31 : Int) (y34 : Effects) (x2 : Run × Int) : Option ((Run × Int) ⊕ ((Run))) :=
  if (decide (x2.2 < (y34.does.l.length : Int))) = true then
    (rd y34.does.l x2.2).bind fun y38 =>
    (dec (eT2 eRun (D.int .i64)) (pc prog 48 [eRun x2.1, .int .u8 y38])).bind fun r40 =>
    some (.inl (r40.1, (IntKind.wrap .i64 (x2.2 + 1))))
  else
    some (.inr x2.1)
theorem L50_2_ok (a4 : Sl (Effects)) (x0 : Listeners × Run × List (Call)) (r17 : Run × Listeners × Call × Bool × Int) (q31 : Int) (y34 : Effects) (x2 : Run × Int) (o : (Run × Int) ⊕ ((Run))) (h : L50_2_step a4 x0 r17 q31 y34 x2 = some o) : Wp prog c50B0 (L50_2_S a4 x0 r17 q31 y34 x2) (LPost 0 (L50_2_S a4 x0 r17 q31 y34) (L50_2_F a4 x0 r17 q31 y34) o) := by
  unfold L50_2_step at h
  delta c50B0 L50_2_S
  try simp only [go_sem]
  first | refine WBr_splitN (fun hc36 => ?_) (fun hc37 => ?_) | refine WBr_split (fun hc36 => ?_) (fun hc37 => ?_)
  · rw [if_pos (show (decide (x2.2 < (y34.does.l.length : Int))) = true by first | exact hc36 | simpa using hc36)] at h
    try simp only [go_sem]
    obtain ⟨y38, hy39, h⟩ := Option.bind_eq_some_iff.1 h
    try simp only [go_sem, rd_pos hy39, rd_ge hy39, rd_map (D.int .u8) hy39]
    obtain ⟨r40, hr41, h⟩ := Option.bind_eq_some_iff.1 h
    replace hr41 := dec_some hr41
    first | refine WVal_pc hr41 ?_ | (simp only [eT2_eq, eT3_eq, eT4_eq, eT5_eq] at hr41; refine WVal_pc hr41 ?_)
    try simp only [go_sem, rd_pos hy39, rd_ge hy39, rd_map (D.int .u8) hy39]
    cases h
    refine ⟨rfl, Up.of (N := 69) (N' := 82) [] rfl rfl (by decide) ?_ ?_⟩
    · refine RegsR.set ?_ (RegsR.set ?_ (RegsR.set ?_ (RegsR.set ?_ (RegsR.set ?_ (RegsR.set ?_ (RegsR.set ?_ (RegsR.set ?_ (RegsR.set ?_ (RegsR.set ?_ RegsR.none)))))))))
      all_goals (try simp only [go_sem, List.map_append, List.map_cons, List.map_nil, rd_pos hy39, rd_ge hy39, rd_map (D.int .u8) hy39])
      all_goals (first | exact VR.d _ | exact VR.ptr' rfl | exact VR.sl'' rfl (by simp) | (simp only [eListeners, eListener, eEvent, eRun, eCall, eStep, eEffects, elisten_place, hc36]; exact VR.d _))
    · refine BlksR.set (show BlkR _ _ (Heap.get _ 50) from ?_) (BlksR.set (show BlkR _ _ (Heap.get _ 14) from ?_) (BlksR.set (show BlkR _ _ (Heap.get _ 4) from ?_) (BlksR.set (show BlkR _ _ (Heap.get _ 3) from ?_) (BlksR.set (show BlkR _ _ (Heap.get _ 0) from ?_) (BlksR.at)))))
      all_goals (try simp only [go_sem, List.map_append, List.map_cons, List.map_nil, rd_pos hy39, rd_ge hy39, rd_map (D.int .u8) hy39])
      all_goals (first | trivial | exact BlkR.refl_d | exact BlkR.map_d | exact BlkR.map_0 | exact BR.map .nil | (refine BlkR.els (Nat.le_refl _) (VRL.cons ?_ VRL.nil); (first | exact VR.d _ | exact VR.ptr' rfl | exact VR.mb rfl | exact VR.sl'' rfl (by simp) | exact VR.mb_sl (by simp) rfl (by simp) | exact VR.undef _ | (refine VR.clo' ?_ ?_ <;> (repeat (first | refine VRL.append ?_ ?_ | exact VRL.nil | refine VRL.cons (by first | exact VR.d _ | exact VR.ptr' rfl | exact VR.mb rfl | exact VR.sl'' rfl (by simp) | exact VR.mb_sl (by simp) rfl (by simp) | exact VR.undef _) ?_ | exact VRL.refl_d _ _)); done) | (refine VRL.ofC ?_; (repeat (first | refine VRL.append ?_ ?_ | exact VRL.nil | refine VRL.cons (by first | exact VR.d _ | exact VR.ptr' rfl | exact VR.mb rfl | exact VR.sl'' rfl (by simp) | exact VR.mb_sl (by simp) rfl (by simp) | exact VR.undef _) ?_ | exact VRL.refl_d _ _)); done) | (refine VRL.ofCa ?_ rfl; (repeat (first | refine VRL.append ?_ ?_ | exact VRL.nil | refine VRL.cons (by first | exact VR.d _ | exact VR.ptr' rfl | exact VR.mb rfl | exact VR.sl'' rfl (by simp) | exact VR.mb_sl (by simp) rfl (by simp) | exact VR.undef _) ?_ | exact VRL.refl_d _ _)); done) | (refine VRL.ofCells ?_; (repeat (first | refine VRL.append ?_ ?_ | exact VRL.nil | refine VRL.cons (by first | exact VR.d _ | exact VR.ptr' rfl | exact VR.mb rfl | exact VR.sl'' rfl (by simp) | exact VR.mb_sl (by simp) rfl (by simp) | exact VR.undef _) ?_ | exact VRL.refl_d _ _)); done) | (refine VRL.tuple ?_; (repeat (first | refine VRL.append ?_ ?_ | exact VRL.nil | refine VRL.cons (by first | exact VR.d _ | exact VR.ptr' rfl | exact VR.mb rfl | exact VR.sl'' rfl (by simp) | exact VR.mb_sl (by simp) rfl (by simp) | exact VR.undef _) ?_ | exact VRL.refl_d _ _)); done) | (refine VRL.agg ?_; (repeat (first | refine VRL.append ?_ ?_ | exact VRL.nil | refine VRL.cons (by first | exact VR.d _ | exact VR.ptr' rfl | exact VR.mb rfl | exact VR.sl'' rfl (by simp) | exact VR.mb_sl (by simp) rfl (by simp) | exact VR.undef _) ?_ | exact VRL.refl_d _ _)); done)); done) | (refine BlkR.els (by simp) ?_; (repeat (first | refine VRL.append ?_ ?_ | exact VRL.nil | refine VRL.cons (by first | exact VR.d _ | exact VR.ptr' rfl | exact VR.mb rfl | exact VR.sl'' rfl (by simp) | exact VR.mb_sl (by simp) rfl (by simp) | exact VR.undef _) ?_ | exact VRL.refl_d _ _)); done) | (refine BlkR.mb_els (by simp) ?_; (repeat (first | refine VRL.append ?_ ?_ | exact VRL.nil | refine VRL.cons (by first | exact VR.d _ | exact VR.ptr' rfl | exact VR.mb rfl | exact VR.sl'' rfl (by simp) | exact VR.mb_sl (by simp) rfl (by simp) | exact VR.undef _) ?_ | exact VRL.refl_d _ _)); done) | (refine BlkR.mb (by simp) ?_; (repeat (first | refine VRL.append ?_ ?_ | exact VRL.nil | refine VRL.cons (by first | exact VR.d _ | exact VR.ptr' rfl | exact VR.mb rfl | exact VR.sl'' rfl (by simp) | exact VR.mb_sl (by simp) rfl (by simp) | exact VR.undef _) ?_ | exact VRL.refl_d _ _)); done) | (simp only [eListeners, eListener, eEvent, eRun, eCall, eStep, eEffects, elisten_place, hc36]; exact BlkR.refl_d))
  · rw [if_neg (show ¬ (decide (x2.2 < (y34.does.l.length : Int))) = true by first | (rw [hc37]; exact Bool.false_ne_true) | simpa using hc37 | (simp at hc37 ⊢; omega))] at h
    try simp only [go_sem]
    cases h
    refine ⟨rfl, by simp, Up.of (N := 69) (N' := 70) [] rfl rfl (by decide) ?_ ?_⟩
    · refine RegsR.set ?_ (RegsR.set ?_ (RegsR.set ?_ (RegsR.set ?_ (RegsR.set ?_ (RegsR.set ?_ (RegsR.set ?_ RegsR.none))))))
      all_goals (try simp only [go_sem, List.map_append, List.map_cons, List.map_nil])
      all_goals (first | exact VR.d _ | exact VR.ptr' rfl | exact VR.sl'' rfl (by simp) | (simp only [eListeners, eListener, eEvent, eRun, eCall, eStep, eEffects, elisten_place, hc37]; exact VR.d _))
    · refine BlksR.set (show BlkR _ _ (Heap.get _ 50) from ?_) (BlksR.set (show BlkR _ _ (Heap.get _ 14) from ?_) (BlksR.set (show BlkR _ _ (Heap.get _ 4) from ?_) (BlksR.set (show BlkR _ _ (Heap.get _ 3) from ?_) (BlksR.set (show BlkR _ _ (Heap.get _ 0) from ?_) (BlksR.at)))))
      all_goals (try simp only [go_sem, List.map_append, List.map_cons, List.map_nil])
      all_goals (first | trivial | exact BlkR.refl_d | exact BlkR.map_d | exact BlkR.map_0 | exact BR.map .nil | (refine BlkR.els (Nat.le_refl _) (VRL.cons ?_ VRL.nil); (first | exact VR.d _ | exact VR.ptr' rfl | exact VR.mb rfl | exact VR.sl'' rfl (by simp) | exact VR.mb_sl (by simp) rfl (by simp) | exact VR.undef _ | (refine VR.clo' ?_ ?_ <;> (repeat (first | refine VRL.append ?_ ?_ | exact VRL.nil | refine VRL.cons (by first | exact VR.d _ | exact VR.ptr' rfl | exact VR.mb rfl | exact VR.sl'' rfl (by simp) | exact VR.mb_sl (by simp) rfl (by simp) | exact VR.undef _) ?_ | exact VRL.refl_d _ _)); done) | (refine VRL.ofC ?_; (repeat (first | refine VRL.append ?_ ?_ | exact VRL.nil | refine VRL.cons (by first | exact VR.d _ | exact VR.ptr' rfl | exact VR.mb rfl | exact VR.sl'' rfl (by simp) | exact VR.mb_sl (by simp) rfl (by simp) | exact VR.undef _) ?_ | exact VRL.refl_d _ _)); done) | (refine VRL.ofCa ?_ rfl; (repeat (first | refine VRL.append ?_ ?_ | exact VRL.nil | refine VRL.cons (by first | exact VR.d _ | exact VR.ptr' rfl | exact VR.mb rfl | exact VR.sl'' rfl (by simp) | exact VR.mb_sl (by simp) rfl (by simp) | exact VR.undef _) ?_ | exact VRL.refl_d _ _)); done) | (refine VRL.ofCells ?_; (repeat (first | refine VRL.append ?_ ?_ | exact VRL.nil | refine VRL.cons (by first | exact VR.d _ | exact VR.ptr' rfl | exact VR.mb rfl | exact VR.sl'' rfl (by simp) | exact VR.mb_sl (by simp) rfl (by simp) | exact VR.undef _) ?_ | exact VRL.refl_d _ _)); done) | (refine VRL.tuple ?_; (repeat (first | refine VRL.append ?_ ?_ | exact VRL.nil | refine VRL.cons (by first | exact VR.d _ | exact VR.ptr' rfl | exact VR.mb rfl | exact VR.sl'' rfl (by simp) | exact VR.mb_sl (by simp) rfl (by simp) | exact VR.undef _) ?_ | exact VRL.refl_d _ _)); done) | (refine VRL.agg ?_; (repeat (first | refine VRL.append ?_ ?_ | exact VRL.nil | refine VRL.cons (by first | exact VR.d _ | exact VR.ptr' rfl | exact VR.mb rfl | exact VR.sl'' rfl (by simp) | exact VR.mb_sl (by simp) rfl (by simp) | exact VR.undef _) ?_ | exact VRL.refl_d _ _)); done)); done) | (refine BlkR.els (by simp) ?_; (repeat (first | refine VRL.append ?_ ?_ | exact VRL.nil | refine VRL.cons (by first | exact VR.d _ | exact VR.ptr' rfl | exact VR.mb rfl | exact VR.sl'' rfl (by simp) | exact VR.mb_sl (by simp) rfl (by simp) | exact VR.undef _) ?_ | exact VRL.refl_d _ _)); done) | (refine BlkR.mb_els (by simp) ?_; (repeat (first | refine VRL.append ?_ ?_ | exact VRL.nil | refine VRL.cons (by first | exact VR.d _ | exact VR.ptr' rfl | exact VR.mb rfl | exact VR.sl'' rfl (by simp) | exact VR.mb_sl (by simp) rfl (by simp) | exact VR.undef _) ?_ | exact VRL.refl_d _ _)); done) | (refine BlkR.mb (by simp) ?_; (repeat (first | refine VRL.append ?_ ?_ | exact VRL.nil | refine VRL.cons (by first | exact VR.d _ | exact VR.ptr' rfl | exact VR.mb rfl | exact VR.sl'' rfl (by simp) | exact VR.mb_sl (by simp) rfl (by simp) | exact VR.undef _) ?_ | exact VRL.refl_d _ _)); done) | (simp only [eListeners, eListener, eEvent, eRun, eCall, eStep, eEffects, elisten_place, hc37]; exact BlkR.refl_d))
def L50_3_S (a4 : Sl (Effects)) (x0 : Listeners × Run × List (Call)) (r17 : Run × Listeners × Call × Bool × Int) (y34 : Effects) (r42 : Run) (x3 : Listeners × Int) : St := ⟨(((((((((Regs.none.set 4 (.d (.list a4.n (a4.l.map eEffects)))).set 5 (.ptr 0 0 0)).set 11 (.ptr 3 0 0)).set 12 (.ptr 4 0 0)).set 15 (.ptr 14 0 0)).set 17 (.sl 50 0 ((x0.2.2 ++ [r17.2.2.1]).length))).set 94 (.d (.list y34.gone.n (y34.gone.l.map (D.int .i64))))).set 95 (.d (.int .i64 (y34.gone.l.length : Int)))).set 96 (.d (.int .i64 x3.2))), ((((((Heap.at 76).set 0 (some (.els 2 [.d (eListeners x3.1)] 0))).set 3 (some (.els 2 [.d (.agg [.list true [], .int .i64 (0)])] 0))).set 4 (some (.els 13 [.d (.agg [.str ([]), .bool false, .bool false, .bool false, .bool false, .bool false, .bool false, .bool false, .bool false, .int .u8 (0), .int .i64 (0), .int .i64 (0), .int .i64 (0)])] 0))).set 14 (some (.els 17 [.d (eRun r42)] 0))).set 50 (some (.els 3 ((x0.2.2 ++ [r17.2.2.1]).map fun z => V.d (eCall z)) x0.2.2.length)))⟩
def L50_3_F (a4 : Sl (Effects)) (x0 : Listeners × Run × List (Call)) (r17 : Run × Listeners × Call × Bool × Int) (y34 : Effects) (r42 : Run) : ((Listeners)) → Ex × St := fun r => (.exit 4, ⟨((((((Regs.none.set 4 (.d (.list a4.n (a4.l.map eEffects)))).set 5 (.ptr 0 0 0)).set 11 (.ptr 3 0 0)).set 12 (.ptr 4 0 0)).set 15 (.ptr 14 0 0)).set 17 (.sl 50 0 ((x0.2.2 ++ [r17.2.2.1]).length))), ((((((Heap.at 76).set 0 (some (.els 2 [.d (eListeners r)] 0))).set 3 (some (.els 2 [.d (.agg [.list true [], .int .i64 (0)])] 0))).set 4 (some (.els 13 [.d (.agg [.str ([]), .bool false, .bool false, .bool false, .bool false, .bool false, .bool false, .bool false, .bool false, .int .u8 (0), .int .i64 (0), .int .i64 (0), .int .i64 (0)])] 0))).set 14 (some (.els 17 [.d (eRun r42)] 0))).set 50 (some (.els 3 ((x0.2.2 ++ [r17.2.2.1]).map fun z => V.d (eCall z)) x0.2.2.length)))⟩)
noncomputable def L50_3_step (a4 : Sl (Effects)) (x0 : Listeners × Run × List (Call)) (r17 : Run × Listeners × Call × Bool × Int) (y34 : Effects) (r42 : Run) (x3 : Listeners × Int) : Option ((Listeners × Int) ⊕ ((Listeners))) :=
  if (decide (x3.2 < (y34.gone.l.length : Int))) = true then
    (rd y34.gone.l x3.2).bind fun y46 =>
    (dec (eT3 eListeners D.bool (D.int .i64)) (pc prog 34 [eListeners x3.1, .int .i64 y46])).bind fun r48 =>
    some (.inl (r48.1, (IntKind.wrap .i64 (x3.2 + 1))))
  else
    some (.inr x3.1)
theorem L50_3_ok (a4 : Sl (Effects)) (x0 : Listeners × Run × List (Call)) (r17 : Run × Listeners × Call × Bool × Int) (y34 : Effects) (r42 : Run) (x3 : Listeners × Int) (o : (Listeners × Int) ⊕ ((Listeners))) (h : L50_3_step a4 x0 r17 y34 r42 x3 = some o) : Wp prog c50B1 (L50_3_S a4 x0 r17 y34 r42 x3) (LPost 0 (L50_3_S a4 x0 r17 y34 r42) (L50_3_F a4 x0 r17 y34 r42) o) := by
  unfold L50_3_step at h
  delta c50B1 L50_3_S
  try simp only [go_sem]
  first | refine WBr_splitN (fun hc44 => ?_) (fun hc45 => ?_) | refine WBr_split (fun hc44 => ?_) (fun hc45 => ?_)
  · rw [if_pos (show (decide (x3.2 < (y34.gone.l.length : Int))) = true by first | exact hc44 | simpa using hc44)] at h
    try simp only [go_sem]
    obtain ⟨y46, hy47, h⟩ := Option.bind_eq_some_iff.1 h
    try simp only [go_sem, rd_pos hy47, rd_ge hy47, rd_map (D.int .i64) hy47]
    obtain ⟨r48, hr49, h⟩ := Option.bind_eq_some_iff.1 h
    replace hr49 := dec_some hr49
    first | refine WVal_pc hr49 ?_ | (simp only [eT2_eq, eT3_eq, eT4_eq, eT5_eq] at hr49; refine WVal_pc hr49 ?_)
    try simp only [go_sem, rd_pos hy47, rd_ge hy47, rd_map (D.int .i64) hy47]
    cases h
    refine ⟨rfl, Up.of (N := 76) (N' := 90) [] rfl rfl (by decide) ?_ ?_⟩
    · refine RegsR.set ?_ (RegsR.set ?_ (RegsR.set ?_ (RegsR.set ?_ (RegsR.set ?_ (RegsR.set ?_ (RegsR.set ?_ (RegsR.set ?_ (RegsR.set ?_ RegsR.none))))))))
      all_goals (try simp only [go_sem, List.map_append, List.map_cons, List.map_nil, rd_pos hy47, rd_ge hy47, rd_map (D.int .i64) hy47])
      all_goals (first | exact VR.d _ | exact VR.ptr' rfl | exact VR.sl'' rfl (by simp) | (simp only [eListeners, eListener, eEvent, eRun, eCall, eStep, eEffects, elisten_place, hc44]; exact VR.d _))
    · refine BlksR.set (show BlkR _ _ (Heap.get _ 50) from ?_) (BlksR.set (show BlkR _ _ (Heap.get _ 14) from ?_) (BlksR.set (show BlkR _ _ (Heap.get _ 4) from ?_) (BlksR.set (show BlkR _ _ (Heap.get _ 3) from ?_) (BlksR.set (show BlkR _ _ (Heap.get _ 0) from ?_) (BlksR.at)))))
      all_goals (try simp only [go_sem, List.map_append, List.map_cons, List.map_nil, rd_pos hy47, rd_ge hy47, rd_map (D.int .i64) hy47])
      all_goals (first | trivial | exact BlkR.refl_d | exact BlkR.map_d | exact BlkR.map_0 | exact BR.map .nil | (refine BlkR.els (Nat.le_refl _) (VRL.cons ?_ VRL.nil); (first | exact VR.d _ | exact VR.ptr' rfl | exact VR.mb rfl | exact VR.sl'' rfl (by simp) | exact VR.mb_sl (by simp) rfl (by simp) | exact VR.undef _ | (refine VR.clo' ?_ ?_ <;> (repeat (first | refine VRL.append ?_ ?_ | exact VRL.nil | refine VRL.cons (by first | exact VR.d _ | exact VR.ptr' rfl | exact VR.mb rfl | exact VR.sl'' rfl (by simp) | exact VR.mb_sl (by simp) rfl (by simp) | exact VR.undef _) ?_ | exact VRL.refl_d _ _)); done) | (refine VRL.ofC ?_; (repeat (first | refine VRL.append ?_ ?_ | exact VRL.nil | refine VRL.cons (by first | exact VR.d _ | exact VR.ptr' rfl | exact VR.mb rfl | exact VR.sl'' rfl (by simp) | exact VR.mb_sl (by simp) rfl (by simp) | exact VR.undef _) ?_ | exact VRL.refl_d _ _)); done) | (refine VRL.ofCa ?_ rfl; (repeat (first | refine VRL.append ?_ ?_ | exact VRL.nil | refine VRL.cons (by first | exact VR.d _ | exact VR.ptr' rfl | exact VR.mb rfl | exact VR.sl'' rfl (by simp) | exact VR.mb_sl (by simp) rfl (by simp) | exact VR.undef _) ?_ | exact VRL.refl_d _ _)); done) | (refine VRL.ofCells ?_; (repeat (first | refine VRL.append ?_ ?_ | exact VRL.nil | refine VRL.cons (by first | exact VR.d _ | exact VR.ptr' rfl | exact VR.mb rfl | exact VR.sl'' rfl (by simp) | exact VR.mb_sl (by simp) rfl (by simp) | exact VR.undef _) ?_ | exact VRL.refl_d _ _)); done) | (refine VRL.tuple ?_; (repeat (first | refine VRL.append ?_ ?_ | exact VRL.nil | refine VRL.cons (by first | exact VR.d _ | exact VR.ptr' rfl | exact VR.mb rfl | exact VR.sl'' rfl (by simp) | exact VR.mb_sl (by simp) rfl (by simp) | exact VR.undef _) ?_ | exact VRL.refl_d _ _)); done) | (refine VRL.agg ?_; (repeat (first | refine VRL.append ?_ ?_ | exact VRL.nil | refine VRL.cons (by first | exact VR.d _ | exact VR.ptr' rfl | exact VR.mb rfl | exact VR.sl'' rfl (by simp) | exact VR.mb_sl (by simp) rfl (by simp) | exact VR.undef _) ?_ | exact VRL.refl_d _ _)); done)); done) | (refine BlkR.els (by simp) ?_; (repeat (first | refine VRL.append ?_ ?_ | exact VRL.nil | refine VRL.cons (by first | exact VR.d _ | exact VR.ptr' rfl | exact VR.mb rfl | exact VR.sl'' rfl (by simp) | exact VR.mb_sl (by simp) rfl (by simp) | exact VR.undef _) ?_ | exact VRL.refl_d _ _)); done) | (refine BlkR.mb_els (by simp) ?_; (repeat (first | refine VRL.append ?_ ?_ | exact VRL.nil | refine VRL.cons (by first | exact VR.d _ | exact VR.ptr' rfl | exact VR.mb rfl | exact VR.sl'' rfl (by simp) | exact VR.mb_sl (by simp) rfl (by simp) | exact VR.undef _) ?_ | exact VRL.refl_d _ _)); done) | (refine BlkR.mb (by simp) ?_; (repeat (first | refine VRL.append ?_ ?_ | exact VRL.nil | refine VRL.cons (by first | exact VR.d _ | exact VR.ptr' rfl | exact VR.mb rfl | exact VR.sl'' rfl (by simp) | exact VR.mb_sl (by simp) rfl (by simp) | exact VR.undef _) ?_ | exact VRL.refl_d _ _)); done) | (simp only [eListeners, eListener, eEvent, eRun, eCall, eStep, eEffects, elisten_place, hc44]; exact BlkR.refl_d))
  · rw [if_neg (show ¬ (decide (x3.2 < (y34.gone.l.length : Int))) = true by first | (rw [hc45]; exact Bool.false_ne_true) | simpa using hc45 | (simp at hc45 ⊢; omega))] at h
    try simp only [go_sem]
    cases h
    refine ⟨rfl, by simp, Up.of (N := 76) (N' := 77) [] rfl rfl (by decide) ?_ ?_⟩
    · refine RegsR.set ?_ (RegsR.set ?_ (RegsR.set ?_ (RegsR.set ?_ (RegsR.set ?_ (RegsR.set ?_ RegsR.none)))))
      all_goals (try simp only [go_sem, List.map_append, List.map_cons, List.map_nil])
      all_goals (first | exact VR.d _ | exact VR.ptr' rfl | exact VR.sl'' rfl (by simp) | (simp only [eListeners, eListener, eEvent, eRun, eCall, eStep, eEffects, elisten_place, hc45]; exact VR.d _))
    · refine BlksR.set (show BlkR _ _ (Heap.get _ 50) from ?_) (BlksR.set (show BlkR _ _ (Heap.get _ 14) from ?_) (BlksR.set (show BlkR _ _ (Heap.get _ 4) from ?_) (BlksR.set (show BlkR _ _ (Heap.get _ 3) from ?_) (BlksR.set (show BlkR _ _ (Heap.get _ 0) from ?_) (BlksR.at)))))
      all_goals (try simp only [go_sem, List.map_append, List.map_cons, List.map_nil])
      all_goals (first | trivial | exact BlkR.refl_d | exact BlkR.map_d | exact BlkR.map_0 | exact BR.map .nil | (refine BlkR.els (Nat.le_refl _) (VRL.cons ?_ VRL.nil); (first | exact VR.d _ | exact VR.ptr' rfl | exact VR.mb rfl | exact VR.sl'' rfl (by simp) | exact VR.mb_sl (by simp) rfl (by simp) | exact VR.undef _ | (refine VR.clo' ?_ ?_ <;> (repeat (first | refine VRL.append ?_ ?_ | exact VRL.nil | refine VRL.cons (by first | exact VR.d _ | exact VR.ptr' rfl | exact VR.mb rfl | exact VR.sl'' rfl (by simp) | exact VR.mb_sl (by simp) rfl (by simp) | exact VR.undef _) ?_ | exact VRL.refl_d _ _)); done) | (refine VRL.ofC ?_; (repeat (first | refine VRL.append ?_ ?_ | exact VRL.nil | refine VRL.cons (by first | exact VR.d _ | exact VR.ptr' rfl | exact VR.mb rfl | exact VR.sl'' rfl (by simp) | exact VR.mb_sl (by simp) rfl (by simp) | exact VR.undef _) ?_ | exact VRL.refl_d _ _)); done) | (refine VRL.ofCa ?_ rfl; (repeat (first | refine VRL.append ?_ ?_ | exact VRL.nil | refine VRL.cons (by first | exact VR.d _ | exact VR.ptr' rfl | exact VR.mb rfl | exact VR.sl'' rfl (by simp) | exact VR.mb_sl (by simp) rfl (by simp) | exact VR.undef _) ?_ | exact VRL.refl_d _ _)); done) | (refine VRL.ofCells ?_; (repeat (first | refine VRL.append ?_ ?_ | exact VRL.nil | refine VRL.cons (by first | exact VR.d _ | exact VR.ptr' rfl | exact VR.mb rfl | exact VR.sl'' rfl (by simp) | exact VR.mb_sl (by simp) rfl (by simp) | exact VR.undef _) ?_ | exact VRL.refl_d _ _)); done) | (refine VRL.tuple ?_; (repeat (first | refine VRL.append ?_ ?_ | exact VRL.nil | refine VRL.cons (by first | exact VR.d _ | exact VR.ptr' rfl | exact VR.mb rfl | exact VR.sl'' rfl (by simp) | exact VR.mb_sl (by simp) rfl (by simp) | exact VR.undef _) ?_ | exact VRL.refl_d _ _)); done) | (refine VRL.agg ?_; (repeat (first | refine VRL.append ?_ ?_ | exact VRL.nil | refine VRL.cons (by first | exact VR.d _ | exact VR.ptr' rfl | exact VR.mb rfl | exact VR.sl'' rfl (by simp) | exact VR.mb_sl (by simp) rfl (by simp) | exact VR.undef _) ?_ | exact VRL.refl_d _ _)); done)); done) | (refine BlkR.els (by simp) ?_; (repeat (first | refine VRL.append ?_ ?_ | exact VRL.nil | refine VRL.cons (by first | exact VR.d _ | exact VR.ptr' rfl | exact VR.mb rfl | exact VR.sl'' rfl (by simp) | exact VR.mb_sl (by simp) rfl (by simp) | exact VR.undef _) ?_ | exact VRL.refl_d _ _)); done) | (refine BlkR.mb_els (by simp) ?_; (repeat (first | refine VRL.append ?_ ?_ | exact VRL.nil | refine VRL.cons (by first | exact VR.d _ | exact VR.ptr' rfl | exact VR.mb rfl | exact VR.sl'' rfl (by simp) | exact VR.mb_sl (by simp) rfl (by simp) | exact VR.undef _) ?_ | exact VRL.refl_d _ _)); done) | (refine BlkR.mb (by simp) ?_; (repeat (first | refine VRL.append ?_ ?_ | exact VRL.nil | refine VRL.cons (by first | exact VR.d _ | exact VR.ptr' rfl | exact VR.mb rfl | exact VR.sl'' rfl (by simp) | exact VR.mb_sl (by simp) rfl (by simp) | exact VR.undef _) ?_ | exact VRL.refl_d _ _)); done) | (simp only [eListeners, eListener, eEvent, eRun, eCall, eStep, eEffects, elisten_place, hc45]; exact BlkR.refl_d))
def L50_0_S (a4 : Sl (Effects)) (x0 : Listeners × Run × List (Call)) : St := ⟨((((((Regs.none.set 4 (.d (.list a4.n (a4.l.map eEffects)))).set 5 (.ptr 0 0 0)).set 11 (.ptr 3 0 0)).set 12 (.ptr 4 0 0)).set 15 (.ptr 14 0 0)).set 17 (mb 23 (x0.2.2.map fun z => V.d (eCall z)))), ((((((Heap.at 24).set 0 (some (.els 2 [.d (eListeners x0.1)] 0))).set 3 (some (.els 2 [.d (.agg [.list true [], .int .i64 (0)])] 0))).set 4 (some (.els 13 [.d (.agg [.str ([]), .bool false, .bool false, .bool false, .bool false, .bool false, .bool false, .bool false, .bool false, .int .u8 (0), .int .i64 (0), .int .i64 (0), .int .i64 (0)])] 0))).set 14 (some (.els 17 [.d (eRun x0.2.1)] 0))).set 23 (mbB 3 x0.2.2.length (x0.2.2.map fun z => V.d (eCall z))))⟩
def L50_0_F (a4 : Sl (Effects)) : ((List (Call) × Listeners × Run)) → Ex × St := fun r => (.exit 0, ⟨(((((Regs.none.set 5 (.ptr 0 0 0)).set 11 (.ptr 3 0 0)).set 12 (.ptr 4 0 0)).set 15 (.ptr 14 0 0)).set 17 (mb 23 (r.1.map fun z => V.d (eCall z)))), ((((((Heap.at 24).set 0 (some (.els 2 [.d (eListeners r.2.1)] 0))).set 3 (some (.els 2 [.d (.agg [.list true [], .int .i64 (0)])] 0))).set 4 (some (.els 13 [.d (.agg [.str ([]), .bool false, .bool false, .bool false, .bool false, .bool false, .bool false, .bool false, .bool false, .int .u8 (0), .int .i64 (0), .int .i64 (0), .int .i64 (0)])] 0))).set 14 (some (.els 17 [.d (eRun r.2.2)] 0))).set 23 (mbB 3 r.1.length (r.1.map fun z => V.d (eCall z))))⟩)
noncomputable def L50_0_step (a4 : Sl (Effects)) (x0 : Listeners × Run × List (Call)) : Option ((Listeners × Run × List (Call)) ⊕ ((List (Call) × Listeners × Run))) :=
  (dec (eT5 eRun eListeners eCall D.bool (D.int .i64)) (pc prog 46 [eListeners x0.1, eRun x0.2.1])).bind fun r17 =>
  if (!r17.2.2.2.1) = true then
    some (.inr (x0.2.2, r17.2.1, r17.1))
  else
    if (x0.2.2.length + 1) * 24 ≤ AI.roomBytes then
      (loopV (L50_1_step a4 x0 r17) 0).bind fun r28 =>
      match r28 with
      | (.inl q30) =>
        some (.inl (r17.2.1, r17.1, (x0.2.2 ++ [r17.2.2.1])))
      | (.inr q31) =>
        if (decide (q31 < 0)) = true then
          some (.inl (r17.2.1, r17.1, (x0.2.2 ++ [r17.2.2.1])))
        else
          (rd a4.l q31).bind fun y34 =>
          (loopV (L50_2_step a4 x0 r17 q31 y34) (r17.1, 0)).bind fun r42 =>
          (loopV (L50_3_step a4 x0 r17 y34 r42) (r17.2.1, 0)).bind fun r50 =>
          some (.inl (r50, r42, (x0.2.2 ++ [r17.2.2.1])))
    else none
theorem L50_0_ok (a4 : Sl (Effects)) (x0 : Listeners × Run × List (Call)) (o : (Listeners × Run × List (Call)) ⊕ ((List (Call) × Listeners × Run))) (h : L50_0_step a4 x0 = some o) : Wp prog c50B2 (L50_0_S a4 x0) (LPost 0 (L50_0_S a4) (L50_0_F a4) o) := by
  unfold L50_0_step at h
  delta c50B2 L50_0_S
  try simp only [go_sem]
  obtain ⟨r17, hr18, h⟩ := Option.bind_eq_some_iff.1 h
  replace hr18 := dec_some hr18
  first | refine WVal_pc hr18 ?_ | (simp only [eT2_eq, eT3_eq, eT4_eq, eT5_eq] at hr18; refine WVal_pc hr18 ?_)
  try simp only [go_sem]
  first | refine WBr_splitN (fun hc19 => ?_) (fun hc20 => ?_) | refine WBr_split (fun hc19 => ?_) (fun hc20 => ?_)
  · rw [if_pos (show (!r17.2.2.2.1) = true by first | exact hc19 | simpa using hc19)] at h
    try simp only [go_sem]
    cases h
    refine ⟨rfl, by simp, Up.of (N := 24) (N' := 47) [] rfl rfl (by decide) ?_ ?_⟩
    · refine RegsR.set ?_ (RegsR.set ?_ (RegsR.set ?_ (RegsR.set ?_ (RegsR.set ?_ RegsR.none))))
      all_goals (try simp only [go_sem, List.map_append, List.map_cons, List.map_nil])
      all_goals (first | exact VR.d _ | exact VR.mb rfl | exact VR.ptr' rfl | (simp only [eListeners, eListener, eEvent, eRun, eCall, eStep, eEffects, elisten_place, hc19]; exact VR.d _))
    · refine BlksR.set (show BlkR _ _ (Heap.get _ 23) from ?_) (BlksR.set (show BlkR _ _ (Heap.get _ 14) from ?_) (BlksR.set (show BlkR _ _ (Heap.get _ 4) from ?_) (BlksR.set (show BlkR _ _ (Heap.get _ 3) from ?_) (BlksR.set (show BlkR _ _ (Heap.get _ 0) from ?_) (BlksR.at)))))
      all_goals (try simp only [go_sem, List.map_append, List.map_cons, List.map_nil])
      all_goals (first | trivial | exact BlkR.refl_d | exact BlkR.map_d | exact BlkR.map_0 | exact BR.map .nil | (refine BlkR.els (Nat.le_refl _) (VRL.cons ?_ VRL.nil); (first | exact VR.d _ | exact VR.ptr' rfl | exact VR.mb rfl | exact VR.sl'' rfl (by simp) | exact VR.mb_sl (by simp) rfl (by simp) | exact VR.undef _ | (refine VR.clo' ?_ ?_ <;> (repeat (first | refine VRL.append ?_ ?_ | exact VRL.nil | refine VRL.cons (by first | exact VR.d _ | exact VR.ptr' rfl | exact VR.mb rfl | exact VR.sl'' rfl (by simp) | exact VR.mb_sl (by simp) rfl (by simp) | exact VR.undef _) ?_ | exact VRL.refl_d _ _)); done) | (refine VRL.ofC ?_; (repeat (first | refine VRL.append ?_ ?_ | exact VRL.nil | refine VRL.cons (by first | exact VR.d _ | exact VR.ptr' rfl | exact VR.mb rfl | exact VR.sl'' rfl (by simp) | exact VR.mb_sl (by simp) rfl (by simp) | exact VR.undef _) ?_ | exact VRL.refl_d _ _)); done) | (refine VRL.ofCa ?_ rfl; (repeat (first | refine VRL.append ?_ ?_ | exact VRL.nil | refine VRL.cons (by first | exact VR.d _ | exact VR.ptr' rfl | exact VR.mb rfl | exact VR.sl'' rfl (by simp) | exact VR.mb_sl (by simp) rfl (by simp) | exact VR.undef _) ?_ | exact VRL.refl_d _ _)); done) | (refine VRL.ofCells ?_; (repeat (first | refine VRL.append ?_ ?_ | exact VRL.nil | refine VRL.cons (by first | exact VR.d _ | exact VR.ptr' rfl | exact VR.mb rfl | exact VR.sl'' rfl (by simp) | exact VR.mb_sl (by simp) rfl (by simp) | exact VR.undef _) ?_ | exact VRL.refl_d _ _)); done) | (refine VRL.tuple ?_; (repeat (first | refine VRL.append ?_ ?_ | exact VRL.nil | refine VRL.cons (by first | exact VR.d _ | exact VR.ptr' rfl | exact VR.mb rfl | exact VR.sl'' rfl (by simp) | exact VR.mb_sl (by simp) rfl (by simp) | exact VR.undef _) ?_ | exact VRL.refl_d _ _)); done) | (refine VRL.agg ?_; (repeat (first | refine VRL.append ?_ ?_ | exact VRL.nil | refine VRL.cons (by first | exact VR.d _ | exact VR.ptr' rfl | exact VR.mb rfl | exact VR.sl'' rfl (by simp) | exact VR.mb_sl (by simp) rfl (by simp) | exact VR.undef _) ?_ | exact VRL.refl_d _ _)); done)); done) | (refine BlkR.els (by simp) ?_; (repeat (first | refine VRL.append ?_ ?_ | exact VRL.nil | refine VRL.cons (by first | exact VR.d _ | exact VR.ptr' rfl | exact VR.mb rfl | exact VR.sl'' rfl (by simp) | exact VR.mb_sl (by simp) rfl (by simp) | exact VR.undef _) ?_ | exact VRL.refl_d _ _)); done) | (refine BlkR.mb_els (by simp) ?_; (repeat (first | refine VRL.append ?_ ?_ | exact VRL.nil | refine VRL.cons (by first | exact VR.d _ | exact VR.ptr' rfl | exact VR.mb rfl | exact VR.sl'' rfl (by simp) | exact VR.mb_sl (by simp) rfl (by simp) | exact VR.undef _) ?_ | exact VRL.refl_d _ _)); done) | (refine BlkR.mb (by simp) ?_; (repeat (first | refine VRL.append ?_ ?_ | exact VRL.nil | refine VRL.cons (by first | exact VR.d _ | exact VR.ptr' rfl | exact VR.mb rfl | exact VR.sl'' rfl (by simp) | exact VR.mb_sl (by simp) rfl (by simp) | exact VR.undef _) ?_ | exact VRL.refl_d _ _)); done) | (simp only [eListeners, eListener, eEvent, eRun, eCall, eStep, eEffects, elisten_place, hc19]; exact BlkR.refl_d))
  · rw [if_neg (show ¬ (!r17.2.2.2.1) = true by first | (rw [hc20]; exact Bool.false_ne_true) | simpa using hc20 | (simp at hc20 ⊢; omega))] at h
    try simp only [go_sem]
    split at h
    case isFalse => cases h
    rename_i hm21
    refine WVal_appM (l := x0.2.2.map fun z => V.d (eCall z)) (new := [V.d (eCall r17.2.2.1)]) (sz := 3) (fz := x0.2.2.length) (by simp only [go_sem, List.map_append, List.map_cons, List.map_nil]) (by intro h; simpa using h) (by simp only [go_sem, elsOf_sl, elsB_all, elsB_one, elsOf_list, mapVd]) (by simp) (by simp only [go_sem]) (by simpa using hm21) ?_
    try simp only [go_sem, hm21]
    refine WVal_inl (fn := c83) rfl rfl ?_
    delta c83
    try simp only [go_sem, hm21]
    obtain ⟨r28, hl29, h⟩ := Option.bind_eq_some_iff.1 h
    refine Wp.loopR locs (n := 56) (a := c83B0) rfl (L50_1_S a4 x0 r17) (L50_1_F a4 x0 r17) (L50_1_ok a4 x0 r17) hl29 ?_ (by (repeat (first | refine Clo.block ?_ | refine Clo.seq locs rfl ?_)); refine Clo.inl locs (n' := 0) rfl rfl rfl ?_ ?_ (show 52 + 4 ≤ _ from by decide) (by decide) ?_; ((repeat (first | exact SelfR.no | exact SelfR.none | refine SelfR.set ?_ ?_ | refine SelfR.args ?_ | exact SelfL.nil | refine SelfL.cons ?_ ?_ | exact Self.d | exact Self.undef | exact Self.rp | exact Self.ptr (by decide) | exact Self.sl (by decide) | exact Self.mb (by decide) | exact Self.map (by decide) | exact Self.yld (by decide) | refine Self.clo ?_ ?_ | refine Self.ofCells ?_ | refine Self.agg ?_ | refine Self.tuple ?_ | refine Self.bif ?_ ?_)); (repeat (first | exact SelfR.no | exact SelfR.none | refine SelfR.set ?_ ?_ | refine SelfR.args ?_ | exact SelfL.nil | refine SelfL.cons ?_ ?_ | exact Self.d | exact Self.undef | exact Self.rp | exact Self.ptr (by decide) | exact Self.sl (by decide) | exact Self.mb (by decide) | exact Self.map (by decide) | exact Self.yld (by decide) | refine Self.clo ?_ ?_ | refine Self.ofCells ?_ | refine Self.agg ?_ | refine Self.tuple ?_ | refine Self.bif ?_ ?_))); (repeat (first | refine Clo.block ?_ | refine Clo.seq locs rfl ?_)); (first | exact Clo.ret | exact Clo.lpost | exact Clo.cpost)) ?_
    · show Up 56 (L50_1_S a4 x0 r17 0) _
      delta L50_1_S
      refine Up.of (N := 60) (N' := 60) [] rfl rfl (by decide) ?_ ?_
      · refine RegsR.set ?_ (RegsR.set ?_ (RegsR.set ?_ (RegsR.set ?_ RegsR.none)))
        all_goals (try simp only [go_sem, List.map_append, List.map_cons, List.map_nil, hm21])
        all_goals (first | exact VR.d _ | exact VR.ptr' rfl | exact VR.mb rfl | exact VR.sl'' rfl (by simp) | exact VR.mb_sl (by simp) rfl (by simp) | exact VR.undef _ | (refine VR.clo' ?_ ?_ <;> (repeat (first | refine VRL.append ?_ ?_ | exact VRL.nil | refine VRL.cons (by first | exact VR.d _ | exact VR.ptr' rfl | exact VR.mb rfl | exact VR.sl'' rfl (by simp) | exact VR.mb_sl (by simp) rfl (by simp) | exact VR.undef _) ?_ | exact VRL.refl_d _ _)); done) | (refine VRL.ofC ?_; (repeat (first | refine VRL.append ?_ ?_ | exact VRL.nil | refine VRL.cons (by first | exact VR.d _ | exact VR.ptr' rfl | exact VR.mb rfl | exact VR.sl'' rfl (by simp) | exact VR.mb_sl (by simp) rfl (by simp) | exact VR.undef _) ?_ | exact VRL.refl_d _ _)); done) | (refine VRL.ofCa ?_ rfl; (repeat (first | refine VRL.append ?_ ?_ | exact VRL.nil | refine VRL.cons (by first | exact VR.d _ | exact VR.ptr' rfl | exact VR.mb rfl | exact VR.sl'' rfl (by simp) | exact VR.mb_sl (by simp) rfl (by simp) | exact VR.undef _) ?_ | exact VRL.refl_d _ _)); done) | (refine VRL.ofCells ?_; (repeat (first | refine VRL.append ?_ ?_ | exact VRL.nil | refine VRL.cons (by first | exact VR.d _ | exact VR.ptr' rfl | exact VR.mb rfl | exact VR.sl'' rfl (by simp) | exact VR.mb_sl (by simp) rfl (by simp) | exact VR.undef _) ?_ | exact VRL.refl_d _ _)); done) | (refine VRL.tuple ?_; (repeat (first | refine VRL.append ?_ ?_ | exact VRL.nil | refine VRL.cons (by first | exact VR.d _ | exact VR.ptr' rfl | exact VR.mb rfl | exact VR.sl'' rfl (by simp) | exact VR.mb_sl (by simp) rfl (by simp) | exact VR.undef _) ?_ | exact VRL.refl_d _ _)); done) | (refine VRL.agg ?_; (repeat (first | refine VRL.append ?_ ?_ | exact VRL.nil | refine VRL.cons (by first | exact VR.d _ | exact VR.ptr' rfl | exact VR.mb rfl | exact VR.sl'' rfl (by simp) | exact VR.mb_sl (by simp) rfl (by simp) | exact VR.undef _) ?_ | exact VRL.refl_d _ _)); done) | (simp only [eListeners, eListener, eEvent, eRun, eCall, eStep, eEffects, elisten_place, hc20]; exact VR.d _))
      · refine BlksR.set (show BlkR _ _ (Heap.get _ 50) from ?_) (BlksR.set (show BlkR _ _ (Heap.get _ 35) from ?_) (BlksR.set (show BlkR _ _ (Heap.get _ 34) from ?_) (BlksR.set (show BlkR _ _ (Heap.get _ 33) from ?_) (BlksR.set (show BlkR _ _ (Heap.get _ 14) from ?_) (BlksR.set (show BlkR _ _ (Heap.get _ 4) from ?_) (BlksR.set (show BlkR _ _ (Heap.get _ 3) from ?_) (BlksR.set (show BlkR _ _ (Heap.get _ 0) from ?_) (BlksR.at))))))))
        all_goals (try simp only [go_sem, List.map_append, List.map_cons, List.map_nil, hm21])
        all_goals (first | trivial | exact BlkR.refl_d | exact BlkR.map_d | exact BlkR.map_0 | exact BR.map .nil | (refine BlkR.els (Nat.le_refl _) (VRL.cons ?_ VRL.nil); (first | exact VR.d _ | exact VR.ptr' rfl | exact VR.mb rfl | exact VR.sl'' rfl (by simp) | exact VR.mb_sl (by simp) rfl (by simp) | exact VR.undef _ | (refine VR.clo' ?_ ?_ <;> (repeat (first | refine VRL.append ?_ ?_ | exact VRL.nil | refine VRL.cons (by first | exact VR.d _ | exact VR.ptr' rfl | exact VR.mb rfl | exact VR.sl'' rfl (by simp) | exact VR.mb_sl (by simp) rfl (by simp) | exact VR.undef _) ?_ | exact VRL.refl_d _ _)); done) | (refine VRL.ofC ?_; (repeat (first | refine VRL.append ?_ ?_ | exact VRL.nil | refine VRL.cons (by first | exact VR.d _ | exact VR.ptr' rfl | exact VR.mb rfl | exact VR.sl'' rfl (by simp) | exact VR.mb_sl (by simp) rfl (by simp) | exact VR.undef _) ?_ | exact VRL.refl_d _ _)); done) | (refine VRL.ofCa ?_ rfl; (repeat (first | refine VRL.append ?_ ?_ | exact VRL.nil | refine VRL.cons (by first | exact VR.d _ | exact VR.ptr' rfl | exact VR.mb rfl | exact VR.sl'' rfl (by simp) | exact VR.mb_sl (by simp) rfl (by simp) | exact VR.undef _) ?_ | exact VRL.refl_d _ _)); done) | (refine VRL.ofCells ?_; (repeat (first | refine VRL.append ?_ ?_ | exact VRL.nil | refine VRL.cons (by first | exact VR.d _ | exact VR.ptr' rfl | exact VR.mb rfl | exact VR.sl'' rfl (by simp) | exact VR.mb_sl (by simp) rfl (by simp) | exact VR.undef _) ?_ | exact VRL.refl_d _ _)); done) | (refine VRL.tuple ?_; (repeat (first | refine VRL.append ?_ ?_ | exact VRL.nil | refine VRL.cons (by first | exact VR.d _ | exact VR.ptr' rfl | exact VR.mb rfl | exact VR.sl'' rfl (by simp) | exact VR.mb_sl (by simp) rfl (by simp) | exact VR.undef _) ?_ | exact VRL.refl_d _ _)); done) | (refine VRL.agg ?_; (repeat (first | refine VRL.append ?_ ?_ | exact VRL.nil | refine VRL.cons (by first | exact VR.d _ | exact VR.ptr' rfl | exact VR.mb rfl | exact VR.sl'' rfl (by simp) | exact VR.mb_sl (by simp) rfl (by simp) | exact VR.undef _) ?_ | exact VRL.refl_d _ _)); done)); done) | (refine BlkR.els (by simp) ?_; (repeat (first | refine VRL.append ?_ ?_ | exact VRL.nil | refine VRL.cons (by first | exact VR.d _ | exact VR.ptr' rfl | exact VR.mb rfl | exact VR.sl'' rfl (by simp) | exact VR.mb_sl (by simp) rfl (by simp) | exact VR.undef _) ?_ | exact VRL.refl_d _ _)); done) | (refine BlkR.mb_els (by simp) ?_; (repeat (first | refine VRL.append ?_ ?_ | exact VRL.nil | refine VRL.cons (by first | exact VR.d _ | exact VR.ptr' rfl | exact VR.mb rfl | exact VR.sl'' rfl (by simp) | exact VR.mb_sl (by simp) rfl (by simp) | exact VR.undef _) ?_ | exact VRL.refl_d _ _)); done) | (refine BlkR.mb (by simp) ?_; (repeat (first | refine VRL.append ?_ ?_ | exact VRL.nil | refine VRL.cons (by first | exact VR.d _ | exact VR.ptr' rfl | exact VR.mb rfl | exact VR.sl'' rfl (by simp) | exact VR.mb_sl (by simp) rfl (by simp) | exact VR.undef _) ?_ | exact VRL.refl_d _ _)); done) | (simp only [eListeners, eListener, eEvent, eRun, eCall, eStep, eEffects, elisten_place, hc20]; exact BlkR.refl_d))
    · rcases r28 with (q30 | q31)
      · dsimp only at h
        dsimp only [L50_1_F]
        try simp only [go_sem, hm21]
        cases h
        refine ⟨rfl, Up.of (N := 24) (N' := 63) [(23, 50)] rfl rfl (by decide) ?_ ?_⟩
        · refine RegsR.set ?_ (RegsR.set ?_ (RegsR.set ?_ (RegsR.set ?_ (RegsR.set ?_ (RegsR.set ?_ RegsR.none)))))
          all_goals (try simp only [go_sem, List.map_append, List.map_cons, List.map_nil, hm21])
          all_goals (first | exact VR.d _ | exact VR.mb_sl (by simp) rfl (by simp) | exact VR.ptr' rfl | (simp only [eListeners, eListener, eEvent, eRun, eCall, eStep, eEffects, elisten_place, hc20]; exact VR.d _))
        · refine BlksR.set (show BlkR _ _ (Heap.get _ 50) from ?_) (BlksR.set (show BlkR _ _ (Heap.get _ 14) from ?_) (BlksR.set (show BlkR _ _ (Heap.get _ 4) from ?_) (BlksR.set (show BlkR _ _ (Heap.get _ 3) from ?_) (BlksR.set (show BlkR _ _ (Heap.get _ 0) from ?_) (BlksR.at)))))
          all_goals (try simp only [go_sem, List.map_append, List.map_cons, List.map_nil, hm21])
          all_goals (first | trivial | exact BlkR.refl_d | exact BlkR.map_d | exact BlkR.map_0 | exact BR.map .nil | (refine BlkR.els (Nat.le_refl _) (VRL.cons ?_ VRL.nil); (first | exact VR.d _ | exact VR.ptr' rfl | exact VR.mb rfl | exact VR.sl'' rfl (by simp) | exact VR.mb_sl (by simp) rfl (by simp) | exact VR.undef _ | (refine VR.clo' ?_ ?_ <;> (repeat (first | refine VRL.append ?_ ?_ | exact VRL.nil | refine VRL.cons (by first | exact VR.d _ | exact VR.ptr' rfl | exact VR.mb rfl | exact VR.sl'' rfl (by simp) | exact VR.mb_sl (by simp) rfl (by simp) | exact VR.undef _) ?_ | exact VRL.refl_d _ _)); done) | (refine VRL.ofC ?_; (repeat (first | refine VRL.append ?_ ?_ | exact VRL.nil | refine VRL.cons (by first | exact VR.d _ | exact VR.ptr' rfl | exact VR.mb rfl | exact VR.sl'' rfl (by simp) | exact VR.mb_sl (by simp) rfl (by simp) | exact VR.undef _) ?_ | exact VRL.refl_d _ _)); done) | (refine VRL.ofCa ?_ rfl; (repeat (first | refine VRL.append ?_ ?_ | exact VRL.nil | refine VRL.cons (by first | exact VR.d _ | exact VR.ptr' rfl | exact VR.mb rfl | exact VR.sl'' rfl (by simp) | exact VR.mb_sl (by simp) rfl (by simp) | exact VR.undef _) ?_ | exact VRL.refl_d _ _)); done) | (refine VRL.ofCells ?_; (repeat (first | refine VRL.append ?_ ?_ | exact VRL.nil | refine VRL.cons (by first | exact VR.d _ | exact VR.ptr' rfl | exact VR.mb rfl | exact VR.sl'' rfl (by simp) | exact VR.mb_sl (by simp) rfl (by simp) | exact VR.undef _) ?_ | exact VRL.refl_d _ _)); done) | (refine VRL.tuple ?_; (repeat (first | refine VRL.append ?_ ?_ | exact VRL.nil | refine VRL.cons (by first | exact VR.d _ | exact VR.ptr' rfl | exact VR.mb rfl | exact VR.sl'' rfl (by simp) | exact VR.mb_sl (by simp) rfl (by simp) | exact VR.undef _) ?_ | exact VRL.refl_d _ _)); done) | (refine VRL.agg ?_; (repeat (first | refine VRL.append ?_ ?_ | exact VRL.nil | refine VRL.cons (by first | exact VR.d _ | exact VR.ptr' rfl | exact VR.mb rfl | exact VR.sl'' rfl (by simp) | exact VR.mb_sl (by simp) rfl (by simp) | exact VR.undef _) ?_ | exact VRL.refl_d _ _)); done)); done) | (refine BlkR.els (by simp) ?_; (repeat (first | refine VRL.append ?_ ?_ | exact VRL.nil | refine VRL.cons (by first | exact VR.d _ | exact VR.ptr' rfl | exact VR.mb rfl | exact VR.sl'' rfl (by simp) | exact VR.mb_sl (by simp) rfl (by simp) | exact VR.undef _) ?_ | exact VRL.refl_d _ _)); done) | (refine BlkR.mb_els (by simp) ?_; (repeat (first | refine VRL.append ?_ ?_ | exact VRL.nil | refine VRL.cons (by first | exact VR.d _ | exact VR.ptr' rfl | exact VR.mb rfl | exact VR.sl'' rfl (by simp) | exact VR.mb_sl (by simp) rfl (by simp) | exact VR.undef _) ?_ | exact VRL.refl_d _ _)); done) | (refine BlkR.mb (by simp) ?_; (repeat (first | refine VRL.append ?_ ?_ | exact VRL.nil | refine VRL.cons (by first | exact VR.d _ | exact VR.ptr' rfl | exact VR.mb rfl | exact VR.sl'' rfl (by simp) | exact VR.mb_sl (by simp) rfl (by simp) | exact VR.undef _) ?_ | exact VRL.refl_d _ _)); done) | (simp only [eListeners, eListener, eEvent, eRun, eCall, eStep, eEffects, elisten_place, hc20]; exact BlkR.refl_d))
      · dsimp only at h
        dsimp only [L50_1_F]
        try simp only [go_sem, hm21]
        first | refine WBr_splitN (fun hc32 => ?_) (fun hc33 => ?_) | refine WBr_split (fun hc32 => ?_) (fun hc33 => ?_)
        · rw [if_pos (show (decide (q31 < 0)) = true by first | exact hc32 | simpa using hc32)] at h
          try simp only [go_sem, hm21]
          cases h
          refine ⟨rfl, Up.of (N := 24) (N' := 62) [(23, 50)] rfl rfl (by decide) ?_ ?_⟩
          · refine RegsR.set ?_ (RegsR.set ?_ (RegsR.set ?_ (RegsR.set ?_ (RegsR.set ?_ (RegsR.set ?_ RegsR.none)))))
            all_goals (try simp only [go_sem, List.map_append, List.map_cons, List.map_nil, hm21])
            all_goals (first | exact VR.d _ | exact VR.mb_sl (by simp) rfl (by simp) | exact VR.ptr' rfl | (simp only [eListeners, eListener, eEvent, eRun, eCall, eStep, eEffects, elisten_place, hc20, hc32]; exact VR.d _))
          · refine BlksR.set (show BlkR _ _ (Heap.get _ 50) from ?_) (BlksR.set (show BlkR _ _ (Heap.get _ 14) from ?_) (BlksR.set (show BlkR _ _ (Heap.get _ 4) from ?_) (BlksR.set (show BlkR _ _ (Heap.get _ 3) from ?_) (BlksR.set (show BlkR _ _ (Heap.get _ 0) from ?_) (BlksR.at)))))
            all_goals (try simp only [go_sem, List.map_append, List.map_cons, List.map_nil, hm21])
            all_goals (first | trivial | exact BlkR.refl_d | exact BlkR.map_d | exact BlkR.map_0 | exact BR.map .nil | (refine BlkR.els (Nat.le_refl _) (VRL.cons ?_ VRL.nil); (first | exact VR.d _ | exact VR.ptr' rfl | exact VR.mb rfl | exact VR.sl'' rfl (by simp) | exact VR.mb_sl (by simp) rfl (by simp) | exact VR.undef _ | (refine VR.clo' ?_ ?_ <;> (repeat (first | refine VRL.append ?_ ?_ | exact VRL.nil | refine VRL.cons (by first | exact VR.d _ | exact VR.ptr' rfl | exact VR.mb rfl | exact VR.sl'' rfl (by simp) | exact VR.mb_sl (by simp) rfl (by simp) | exact VR.undef _) ?_ | exact VRL.refl_d _ _)); done) | (refine VRL.ofC ?_; (repeat (first | refine VRL.append ?_ ?_ | exact VRL.nil | refine VRL.cons (by first | exact VR.d _ | exact VR.ptr' rfl | exact VR.mb rfl | exact VR.sl'' rfl (by simp) | exact VR.mb_sl (by simp) rfl (by simp) | exact VR.undef _) ?_ | exact VRL.refl_d _ _)); done) | (refine VRL.ofCa ?_ rfl; (repeat (first | refine VRL.append ?_ ?_ | exact VRL.nil | refine VRL.cons (by first | exact VR.d _ | exact VR.ptr' rfl | exact VR.mb rfl | exact VR.sl'' rfl (by simp) | exact VR.mb_sl (by simp) rfl (by simp) | exact VR.undef _) ?_ | exact VRL.refl_d _ _)); done) | (refine VRL.ofCells ?_; (repeat (first | refine VRL.append ?_ ?_ | exact VRL.nil | refine VRL.cons (by first | exact VR.d _ | exact VR.ptr' rfl | exact VR.mb rfl | exact VR.sl'' rfl (by simp) | exact VR.mb_sl (by simp) rfl (by simp) | exact VR.undef _) ?_ | exact VRL.refl_d _ _)); done) | (refine VRL.tuple ?_; (repeat (first | refine VRL.append ?_ ?_ | exact VRL.nil | refine VRL.cons (by first | exact VR.d _ | exact VR.ptr' rfl | exact VR.mb rfl | exact VR.sl'' rfl (by simp) | exact VR.mb_sl (by simp) rfl (by simp) | exact VR.undef _) ?_ | exact VRL.refl_d _ _)); done) | (refine VRL.agg ?_; (repeat (first | refine VRL.append ?_ ?_ | exact VRL.nil | refine VRL.cons (by first | exact VR.d _ | exact VR.ptr' rfl | exact VR.mb rfl | exact VR.sl'' rfl (by simp) | exact VR.mb_sl (by simp) rfl (by simp) | exact VR.undef _) ?_ | exact VRL.refl_d _ _)); done)); done) | (refine BlkR.els (by simp) ?_; (repeat (first | refine VRL.append ?_ ?_ | exact VRL.nil | refine VRL.cons (by first | exact VR.d _ | exact VR.ptr' rfl | exact VR.mb rfl | exact VR.sl'' rfl (by simp) | exact VR.mb_sl (by simp) rfl (by simp) | exact VR.undef _) ?_ | exact VRL.refl_d _ _)); done) | (refine BlkR.mb_els (by simp) ?_; (repeat (first | refine VRL.append ?_ ?_ | exact VRL.nil | refine VRL.cons (by first | exact VR.d _ | exact VR.ptr' rfl | exact VR.mb rfl | exact VR.sl'' rfl (by simp) | exact VR.mb_sl (by simp) rfl (by simp) | exact VR.undef _) ?_ | exact VRL.refl_d _ _)); done) | (refine BlkR.mb (by simp) ?_; (repeat (first | refine VRL.append ?_ ?_ | exact VRL.nil | refine VRL.cons (by first | exact VR.d _ | exact VR.ptr' rfl | exact VR.mb rfl | exact VR.sl'' rfl (by simp) | exact VR.mb_sl (by simp) rfl (by simp) | exact VR.undef _) ?_ | exact VRL.refl_d _ _)); done) | (simp only [eListeners, eListener, eEvent, eRun, eCall, eStep, eEffects, elisten_place, hc20, hc32]; exact BlkR.refl_d))
        · rw [if_neg (show ¬ (decide (q31 < 0)) = true by first | (rw [hc33]; exact Bool.false_ne_true) | simpa using hc33 | (simp at hc33 ⊢; omega))] at h
          try simp only [go_sem, hm21]
          obtain ⟨y34, hy35, h⟩ := Option.bind_eq_some_iff.1 h
          try simp only [go_sem, hm21, rd_pos hy35, rd_ge hy35, rd_map eEffects hy35]
          obtain ⟨r42, hl43, h⟩ := Option.bind_eq_some_iff.1 h
          refine Wp.loopR locs (n := 0) (a := c50B0) rfl (L50_2_S a4 x0 r17 q31 y34) (L50_2_F a4 x0 r17 q31 y34) (L50_2_ok a4 x0 r17 q31 y34) hl43 ?_ (by (repeat (first | refine Clo.block ?_ | refine Clo.seq locs rfl ?_)); (first | exact Clo.ret | exact Clo.lpost | exact Clo.cpost)) ?_
          · show Up 0 (L50_2_S a4 x0 r17 q31 y34 (r17.1, 0)) _
            delta L50_2_S
            refine Up.of (N := 69) (N' := 69) [] rfl rfl (by decide) ?_ ?_
            · refine RegsR.set ?_ (RegsR.set ?_ (RegsR.set ?_ (RegsR.set ?_ (RegsR.set ?_ (RegsR.set ?_ (RegsR.set ?_ (RegsR.set ?_ (RegsR.set ?_ (RegsR.set ?_ RegsR.none)))))))))
              all_goals (try simp only [go_sem, List.map_append, List.map_cons, List.map_nil, hm21, rd_pos hy35, rd_ge hy35, rd_map eEffects hy35])
              all_goals (first | exact VR.d _ | exact VR.ptr' rfl | exact VR.sl'' rfl (by simp) | (simp only [eListeners, eListener, eEvent, eRun, eCall, eStep, eEffects, elisten_place, hc20, hc33]; exact VR.d _))
            · refine BlksR.set (show BlkR _ _ (Heap.get _ 50) from ?_) (BlksR.set (show BlkR _ _ (Heap.get _ 14) from ?_) (BlksR.set (show BlkR _ _ (Heap.get _ 4) from ?_) (BlksR.set (show BlkR _ _ (Heap.get _ 3) from ?_) (BlksR.set (show BlkR _ _ (Heap.get _ 0) from ?_) (BlksR.at)))))
              all_goals (try simp only [go_sem, List.map_append, List.map_cons, List.map_nil, hm21, rd_pos hy35, rd_ge hy35, rd_map eEffects hy35])
              all_goals (first | trivial | exact BlkR.refl_d | exact BlkR.map_d | exact BlkR.map_0 | exact BR.map .nil | (refine BlkR.els (Nat.le_refl _) (VRL.cons ?_ VRL.nil); (first | exact VR.d _ | exact VR.ptr' rfl | exact VR.mb rfl | exact VR.sl'' rfl (by simp) | exact VR.mb_sl (by simp) rfl (by simp) | exact VR.undef _ | (refine VR.clo' ?_ ?_ <;> (repeat (first | refine VRL.append ?_ ?_ | exact VRL.nil | refine VRL.cons (by first | exact VR.d _ | exact VR.ptr' rfl | exact VR.mb rfl | exact VR.sl'' rfl (by simp) | exact VR.mb_sl (by simp) rfl (by simp) | exact VR.undef _) ?_ | exact VRL.refl_d _ _)); done) | (refine VRL.ofC ?_; (repeat (first | refine VRL.append ?_ ?_ | exact VRL.nil | refine VRL.cons (by first | exact VR.d _ | exact VR.ptr' rfl | exact VR.mb rfl | exact VR.sl'' rfl (by simp) | exact VR.mb_sl (by simp) rfl (by simp) | exact VR.undef _) ?_ | exact VRL.refl_d _ _)); done) | (refine VRL.ofCa ?_ rfl; (repeat (first | refine VRL.append ?_ ?_ | exact VRL.nil | refine VRL.cons (by first | exact VR.d _ | exact VR.ptr' rfl | exact VR.mb rfl | exact VR.sl'' rfl (by simp) | exact VR.mb_sl (by simp) rfl (by simp) | exact VR.undef _) ?_ | exact VRL.refl_d _ _)); done) | (refine VRL.ofCells ?_; (repeat (first | refine VRL.append ?_ ?_ | exact VRL.nil | refine VRL.cons (by first | exact VR.d _ | exact VR.ptr' rfl | exact VR.mb rfl | exact VR.sl'' rfl (by simp) | exact VR.mb_sl (by simp) rfl (by simp) | exact VR.undef _) ?_ | exact VRL.refl_d _ _)); done) | (refine VRL.tuple ?_; (repeat (first | refine VRL.append ?_ ?_ | exact VRL.nil | refine VRL.cons (by first | exact VR.d _ | exact VR.ptr' rfl | exact VR.mb rfl | exact VR.sl'' rfl (by simp) | exact VR.mb_sl (by simp) rfl (by simp) | exact VR.undef _) ?_ | exact VRL.refl_d _ _)); done) | (refine VRL.agg ?_; (repeat (first | refine VRL.append ?_ ?_ | exact VRL.nil | refine VRL.cons (by first | exact VR.d _ | exact VR.ptr' rfl | exact VR.mb rfl | exact VR.sl'' rfl (by simp) | exact VR.mb_sl (by simp) rfl (by simp) | exact VR.undef _) ?_ | exact VRL.refl_d _ _)); done)); done) | (refine BlkR.els (by simp) ?_; (repeat (first | refine VRL.append ?_ ?_ | exact VRL.nil | refine VRL.cons (by first | exact VR.d _ | exact VR.ptr' rfl | exact VR.mb rfl | exact VR.sl'' rfl (by simp) | exact VR.mb_sl (by simp) rfl (by simp) | exact VR.undef _) ?_ | exact VRL.refl_d _ _)); done) | (refine BlkR.mb_els (by simp) ?_; (repeat (first | refine VRL.append ?_ ?_ | exact VRL.nil | refine VRL.cons (by first | exact VR.d _ | exact VR.ptr' rfl | exact VR.mb rfl | exact VR.sl'' rfl (by simp) | exact VR.mb_sl (by simp) rfl (by simp) | exact VR.undef _) ?_ | exact VRL.refl_d _ _)); done) | (refine BlkR.mb (by simp) ?_; (repeat (first | refine VRL.append ?_ ?_ | exact VRL.nil | refine VRL.cons (by first | exact VR.d _ | exact VR.ptr' rfl | exact VR.mb rfl | exact VR.sl'' rfl (by simp) | exact VR.mb_sl (by simp) rfl (by simp) | exact VR.undef _) ?_ | exact VRL.refl_d _ _)); done) | (simp only [eListeners, eListener, eEvent, eRun, eCall, eStep, eEffects, elisten_place, hc20, hc33]; exact BlkR.refl_d))
          · dsimp only [L50_2_F]
            try simp only [go_sem, hm21, rd_pos hy35, rd_ge hy35, rd_map eEffects hy35]
            obtain ⟨r50, hl51, h⟩ := Option.bind_eq_some_iff.1 h
            refine Wp.loopR locs (n := 0) (a := c50B1) rfl (L50_3_S a4 x0 r17 y34 r42) (L50_3_F a4 x0 r17 y34 r42) (L50_3_ok a4 x0 r17 y34 r42) hl51 ?_ (by (repeat (first | refine Clo.block ?_ | refine Clo.seq locs rfl ?_)); (first | exact Clo.ret | exact Clo.lpost | exact Clo.cpost)) ?_
            · show Up 0 (L50_3_S a4 x0 r17 y34 r42 (r17.2.1, 0)) _
              delta L50_3_S
              refine Up.of (N := 76) (N' := 76) [] rfl rfl (by decide) ?_ ?_
              · refine RegsR.set ?_ (RegsR.set ?_ (RegsR.set ?_ (RegsR.set ?_ (RegsR.set ?_ (RegsR.set ?_ (RegsR.set ?_ (RegsR.set ?_ (RegsR.set ?_ RegsR.none))))))))
                all_goals (try simp only [go_sem, List.map_append, List.map_cons, List.map_nil, hm21, rd_pos hy35, rd_ge hy35, rd_map eEffects hy35])
                all_goals (first | exact VR.d _ | exact VR.ptr' rfl | exact VR.sl'' rfl (by simp) | (simp only [eListeners, eListener, eEvent, eRun, eCall, eStep, eEffects, elisten_place, hc20, hc33]; exact VR.d _))
              · refine BlksR.set (show BlkR _ _ (Heap.get _ 50) from ?_) (BlksR.set (show BlkR _ _ (Heap.get _ 14) from ?_) (BlksR.set (show BlkR _ _ (Heap.get _ 4) from ?_) (BlksR.set (show BlkR _ _ (Heap.get _ 3) from ?_) (BlksR.set (show BlkR _ _ (Heap.get _ 0) from ?_) (BlksR.at)))))
                all_goals (try simp only [go_sem, List.map_append, List.map_cons, List.map_nil, hm21, rd_pos hy35, rd_ge hy35, rd_map eEffects hy35])
                all_goals (first | trivial | exact BlkR.refl_d | exact BlkR.map_d | exact BlkR.map_0 | exact BR.map .nil | (refine BlkR.els (Nat.le_refl _) (VRL.cons ?_ VRL.nil); (first | exact VR.d _ | exact VR.ptr' rfl | exact VR.mb rfl | exact VR.sl'' rfl (by simp) | exact VR.mb_sl (by simp) rfl (by simp) | exact VR.undef _ | (refine VR.clo' ?_ ?_ <;> (repeat (first | refine VRL.append ?_ ?_ | exact VRL.nil | refine VRL.cons (by first | exact VR.d _ | exact VR.ptr' rfl | exact VR.mb rfl | exact VR.sl'' rfl (by simp) | exact VR.mb_sl (by simp) rfl (by simp) | exact VR.undef _) ?_ | exact VRL.refl_d _ _)); done) | (refine VRL.ofC ?_; (repeat (first | refine VRL.append ?_ ?_ | exact VRL.nil | refine VRL.cons (by first | exact VR.d _ | exact VR.ptr' rfl | exact VR.mb rfl | exact VR.sl'' rfl (by simp) | exact VR.mb_sl (by simp) rfl (by simp) | exact VR.undef _) ?_ | exact VRL.refl_d _ _)); done) | (refine VRL.ofCa ?_ rfl; (repeat (first | refine VRL.append ?_ ?_ | exact VRL.nil | refine VRL.cons (by first | exact VR.d _ | exact VR.ptr' rfl | exact VR.mb rfl | exact VR.sl'' rfl (by simp) | exact VR.mb_sl (by simp) rfl (by simp) | exact VR.undef _) ?_ | exact VRL.refl_d _ _)); done) | (refine VRL.ofCells ?_; (repeat (first | refine VRL.append ?_ ?_ | exact VRL.nil | refine VRL.cons (by first | exact VR.d _ | exact VR.ptr' rfl | exact VR.mb rfl | exact VR.sl'' rfl (by simp) | exact VR.mb_sl (by simp) rfl (by simp) | exact VR.undef _) ?_ | exact VRL.refl_d _ _)); done) | (refine VRL.tuple ?_; (repeat (first | refine VRL.append ?_ ?_ | exact VRL.nil | refine VRL.cons (by first | exact VR.d _ | exact VR.ptr' rfl | exact VR.mb rfl | exact VR.sl'' rfl (by simp) | exact VR.mb_sl (by simp) rfl (by simp) | exact VR.undef _) ?_ | exact VRL.refl_d _ _)); done) | (refine VRL.agg ?_; (repeat (first | refine VRL.append ?_ ?_ | exact VRL.nil | refine VRL.cons (by first | exact VR.d _ | exact VR.ptr' rfl | exact VR.mb rfl | exact VR.sl'' rfl (by simp) | exact VR.mb_sl (by simp) rfl (by simp) | exact VR.undef _) ?_ | exact VRL.refl_d _ _)); done)); done) | (refine BlkR.els (by simp) ?_; (repeat (first | refine VRL.append ?_ ?_ | exact VRL.nil | refine VRL.cons (by first | exact VR.d _ | exact VR.ptr' rfl | exact VR.mb rfl | exact VR.sl'' rfl (by simp) | exact VR.mb_sl (by simp) rfl (by simp) | exact VR.undef _) ?_ | exact VRL.refl_d _ _)); done) | (refine BlkR.mb_els (by simp) ?_; (repeat (first | refine VRL.append ?_ ?_ | exact VRL.nil | refine VRL.cons (by first | exact VR.d _ | exact VR.ptr' rfl | exact VR.mb rfl | exact VR.sl'' rfl (by simp) | exact VR.mb_sl (by simp) rfl (by simp) | exact VR.undef _) ?_ | exact VRL.refl_d _ _)); done) | (refine BlkR.mb (by simp) ?_; (repeat (first | refine VRL.append ?_ ?_ | exact VRL.nil | refine VRL.cons (by first | exact VR.d _ | exact VR.ptr' rfl | exact VR.mb rfl | exact VR.sl'' rfl (by simp) | exact VR.mb_sl (by simp) rfl (by simp) | exact VR.undef _) ?_ | exact VRL.refl_d _ _)); done) | (simp only [eListeners, eListener, eEvent, eRun, eCall, eStep, eEffects, elisten_place, hc20, hc33]; exact BlkR.refl_d))
            · dsimp only [L50_3_F]
              try simp only [go_sem, hm21, rd_pos hy35, rd_ge hy35, rd_map eEffects hy35]
              cases h
              refine ⟨rfl, Up.of (N := 24) (N' := 76) [(23, 50)] rfl rfl (by decide) ?_ ?_⟩
              · refine RegsR.set ?_ (RegsR.set ?_ (RegsR.set ?_ (RegsR.set ?_ (RegsR.set ?_ (RegsR.set ?_ RegsR.none)))))
                all_goals (try simp only [go_sem, List.map_append, List.map_cons, List.map_nil, hm21, rd_pos hy35, rd_ge hy35, rd_map eEffects hy35])
                all_goals (first | exact VR.d _ | exact VR.mb_sl (by simp) rfl (by simp) | exact VR.ptr' rfl | (simp only [eListeners, eListener, eEvent, eRun, eCall, eStep, eEffects, elisten_place, hc20, hc33]; exact VR.d _))
              · refine BlksR.set (show BlkR _ _ (Heap.get _ 50) from ?_) (BlksR.set (show BlkR _ _ (Heap.get _ 14) from ?_) (BlksR.set (show BlkR _ _ (Heap.get _ 4) from ?_) (BlksR.set (show BlkR _ _ (Heap.get _ 3) from ?_) (BlksR.set (show BlkR _ _ (Heap.get _ 0) from ?_) (BlksR.at)))))
                all_goals (try simp only [go_sem, List.map_append, List.map_cons, List.map_nil, hm21, rd_pos hy35, rd_ge hy35, rd_map eEffects hy35])
                all_goals (first | trivial | exact BlkR.refl_d | exact BlkR.map_d | exact BlkR.map_0 | exact BR.map .nil | (refine BlkR.els (Nat.le_refl _) (VRL.cons ?_ VRL.nil); (first | exact VR.d _ | exact VR.ptr' rfl | exact VR.mb rfl | exact VR.sl'' rfl (by simp) | exact VR.mb_sl (by simp) rfl (by simp) | exact VR.undef _ | (refine VR.clo' ?_ ?_ <;> (repeat (first | refine VRL.append ?_ ?_ | exact VRL.nil | refine VRL.cons (by first | exact VR.d _ | exact VR.ptr' rfl | exact VR.mb rfl | exact VR.sl'' rfl (by simp) | exact VR.mb_sl (by simp) rfl (by simp) | exact VR.undef _) ?_ | exact VRL.refl_d _ _)); done) | (refine VRL.ofC ?_; (repeat (first | refine VRL.append ?_ ?_ | exact VRL.nil | refine VRL.cons (by first | exact VR.d _ | exact VR.ptr' rfl | exact VR.mb rfl | exact VR.sl'' rfl (by simp) | exact VR.mb_sl (by simp) rfl (by simp) | exact VR.undef _) ?_ | exact VRL.refl_d _ _)); done) | (refine VRL.ofCa ?_ rfl; (repeat (first | refine VRL.append ?_ ?_ | exact VRL.nil | refine VRL.cons (by first | exact VR.d _ | exact VR.ptr' rfl | exact VR.mb rfl | exact VR.sl'' rfl (by simp) | exact VR.mb_sl (by simp) rfl (by simp) | exact VR.undef _) ?_ | exact VRL.refl_d _ _)); done) | (refine VRL.ofCells ?_; (repeat (first | refine VRL.append ?_ ?_ | exact VRL.nil | refine VRL.cons (by first | exact VR.d _ | exact VR.ptr' rfl | exact VR.mb rfl | exact VR.sl'' rfl (by simp) | exact VR.mb_sl (by simp) rfl (by simp) | exact VR.undef _) ?_ | exact VRL.refl_d _ _)); done) | (refine VRL.tuple ?_; (repeat (first | refine VRL.append ?_ ?_ | exact VRL.nil | refine VRL.cons (by first | exact VR.d _ | exact VR.ptr' rfl | exact VR.mb rfl | exact VR.sl'' rfl (by simp) | exact VR.mb_sl (by simp) rfl (by simp) | exact VR.undef _) ?_ | exact VRL.refl_d _ _)); done) | (refine VRL.agg ?_; (repeat (first | refine VRL.append ?_ ?_ | exact VRL.nil | refine VRL.cons (by first | exact VR.d _ | exact VR.ptr' rfl | exact VR.mb rfl | exact VR.sl'' rfl (by simp) | exact VR.mb_sl (by simp) rfl (by simp) | exact VR.undef _) ?_ | exact VRL.refl_d _ _)); done)); done) | (refine BlkR.els (by simp) ?_; (repeat (first | refine VRL.append ?_ ?_ | exact VRL.nil | refine VRL.cons (by first | exact VR.d _ | exact VR.ptr' rfl | exact VR.mb rfl | exact VR.sl'' rfl (by simp) | exact VR.mb_sl (by simp) rfl (by simp) | exact VR.undef _) ?_ | exact VRL.refl_d _ _)); done) | (refine BlkR.mb_els (by simp) ?_; (repeat (first | refine VRL.append ?_ ?_ | exact VRL.nil | refine VRL.cons (by first | exact VR.d _ | exact VR.ptr' rfl | exact VR.mb rfl | exact VR.sl'' rfl (by simp) | exact VR.mb_sl (by simp) rfl (by simp) | exact VR.undef _) ?_ | exact VRL.refl_d _ _)); done) | (refine BlkR.mb (by simp) ?_; (repeat (first | refine VRL.append ?_ ?_ | exact VRL.nil | refine VRL.cons (by first | exact VR.d _ | exact VR.ptr' rfl | exact VR.mb rfl | exact VR.sl'' rfl (by simp) | exact VR.mb_sl (by simp) rfl (by simp) | exact VR.undef _) ?_ | exact VRL.refl_d _ _)); done) | (simp only [eListeners, eListener, eEvent, eRun, eCall, eStep, eEffects, elisten_place, hc20, hc33]; exact BlkR.refl_d))
noncomputable def P50 (a0 : Listeners) (a1 : Sl (Step)) (a2 : Event) (a3 : Bool) (a4 : Sl (Effects)) : Option (Sl (Call) × Listeners × Event × Bool × Int) :=
  (dec (eT2 eRun (D.int .i64)) (pc prog 36 [.list a1.n (a1.l.map eStep), eEvent a2, .bool a3])).bind fun r1 =>
  (if (r1.2 == 0) = true then
    (dec (D.int .i64) (pc prog 21 [eListeners a0])).bind fun r5 =>
    some r5
  else
    some r1.2 : Option ((Int))).bind fun r7 =>
  (if (r7 == 0) = true then
    (dec (D.int .i64) (pc prog 82 [.list a4.n (a4.l.map eEffects)])).bind fun r11 =>
    some r11
  else
    some r7 : Option ((Int))).bind fun r13 =>
  if (!(r13 == 0)) = true then
    some (⟨true, []⟩, (⟨⟨true, []⟩, 0⟩ : Listeners), (⟨[], false, false, false, false, false, false, false, false, 0, 0, 0, 0⟩ : Event), false, r13)
  else
    (loopV (L50_0_step a4) (a0, r1.1, [])).bind fun r52 =>
    (dec (eT3 eEvent D.bool (D.int .i64)) (pc prog 38 [eRun r52.2.2])).bind fun r54 =>
    some (⟨r52.1.isEmpty, r52.1⟩, r52.2.1, r54.1, r54.2.1, 0)
theorem ok50 (a0 : Listeners) (a1 : Sl (Step)) (a2 : Event) (a3 : Bool) (a4 : Sl (Effects)) (r : Sl (Call) × Listeners × Event × Bool × Int) (h : P50 a0 a1 a2 a3 a4 = some r) : pc prog 50 [eListeners a0, .list a1.n (a1.l.map eStep), eEvent a2, .bool a3, .list a4.n (a4.l.map eEffects)] = some ((eT5 (eSl eCall) eListeners eEvent D.bool (D.int .i64)) r) := by
  unfold P50 at h
  refine pc_of (fn := c50) rfl rfl ?_
  delta c50
  try simp only [go_sem]
  obtain ⟨r1, hr2, h⟩ := Option.bind_eq_some_iff.1 h
  replace hr2 := dec_some hr2
  first | refine WVal_pc hr2 ?_ | (simp only [eT2_eq, eT3_eq, eT4_eq, eT5_eq] at hr2; refine WVal_pc hr2 ?_)
  try simp only [go_sem]
  obtain ⟨r7, hl8, h⟩ := Option.bind_eq_some_iff.1 h
  refine WBr.cut (n := 0) .normal ⟨((((((Regs.none.set 4 (.d (.list a4.n (a4.l.map eEffects)))).set 5 (.ptr 0 0 0)).set 11 (.ptr 3 0 0)).set 12 (.ptr 4 0 0)).set 15 (.ptr 14 0 0)).set 16 (.d (.int .i64 r7))), (((((Heap.at 19).set 0 (some (.els 2 [.d (eListeners a0)] 0))).set 3 (some (.els 2 [.d (.agg [.list true [], .int .i64 (0)])] 0))).set 4 (some (.els 13 [.d (.agg [.str ([]), .bool false, .bool false, .bool false, .bool false, .bool false, .bool false, .bool false, .bool false, .int .u8 (0), .int .i64 (0), .int .i64 (0), .int .i64 (0)])] 0))).set 14 (some (.els 17 [.d (eRun r1.1)] 0)))⟩ ?_ (by (repeat (first | refine Clo.block ?_ | refine Clo.seq locs rfl ?_)); (first | exact Clo.ret | exact Clo.lpost | exact Clo.cpost)) ?_
  · replace h := hl8
    first | refine WBr_splitN (fun hc3 => ?_) (fun hc4 => ?_) | refine WBr_split (fun hc3 => ?_) (fun hc4 => ?_)
    · rw [if_pos (show (r1.2 == 0) = true by first | exact hc3 | simpa using hc3)] at h
      try simp only [go_sem]
      obtain ⟨r5, hr6, h⟩ := Option.bind_eq_some_iff.1 h
      replace hr6 := dec_some hr6
      first | refine WVal_pc hr6 ?_ | (simp only [eT2_eq, eT3_eq, eT4_eq, eT5_eq] at hr6; refine WVal_pc hr6 ?_)
      try simp only [go_sem]
      cases h
      exact ⟨rfl, Up.of (N := 19) (N' := 22) [] rfl rfl (by decide) (.set (.d _) (.set (.ptr' rfl) (.set (.ptr' rfl) (.set (.ptr' rfl) (.set (.ptr' rfl) (.set (.d _) RegsR.none)))))) (.set BlkR.refl_d (.set BlkR.refl_d (.set BlkR.refl_d (.set BlkR.refl_d BlksR.at))))⟩
    · rw [if_neg (show ¬ (r1.2 == 0) = true by first | (rw [hc4]; exact Bool.false_ne_true) | simpa using hc4 | (simp at hc4 ⊢; omega))] at h
      try simp only [go_sem]
      cases h
      exact ⟨rfl, Up.of (N := 19) (N' := 19) [] rfl rfl (by decide) (.set (.d _) (.set (.ptr' rfl) (.set (.ptr' rfl) (.set (.ptr' rfl) (.set (.ptr' rfl) (.set (.d _) RegsR.none)))))) (.set BlkR.refl_d (.set BlkR.refl_d (.set BlkR.refl_d (.set BlkR.refl_d BlksR.at))))⟩
  · try simp only [go_sem]
    obtain ⟨r13, hl14, h⟩ := Option.bind_eq_some_iff.1 h
    refine WBr.cut (n := 0) .normal ⟨((((((Regs.none.set 4 (.d (.list a4.n (a4.l.map eEffects)))).set 5 (.ptr 0 0 0)).set 11 (.ptr 3 0 0)).set 12 (.ptr 4 0 0)).set 15 (.ptr 14 0 0)).set 16 (.d (.int .i64 r13))), (((((Heap.at 21).set 0 (some (.els 2 [.d (eListeners a0)] 0))).set 3 (some (.els 2 [.d (.agg [.list true [], .int .i64 (0)])] 0))).set 4 (some (.els 13 [.d (.agg [.str ([]), .bool false, .bool false, .bool false, .bool false, .bool false, .bool false, .bool false, .bool false, .int .u8 (0), .int .i64 (0), .int .i64 (0), .int .i64 (0)])] 0))).set 14 (some (.els 17 [.d (eRun r1.1)] 0)))⟩ ?_ (by (repeat (first | refine Clo.block ?_ | refine Clo.seq locs rfl ?_)); (first | exact Clo.ret | exact Clo.lpost | exact Clo.cpost)) ?_
    · replace h := hl14
      first | refine WBr_splitN (fun hc9 => ?_) (fun hc10 => ?_) | refine WBr_split (fun hc9 => ?_) (fun hc10 => ?_)
      · rw [if_pos (show (r7 == 0) = true by first | exact hc9 | simpa using hc9)] at h
        try simp only [go_sem]
        obtain ⟨r11, hr12, h⟩ := Option.bind_eq_some_iff.1 h
        replace hr12 := dec_some hr12
        first | refine WVal_pc hr12 ?_ | (simp only [eT2_eq, eT3_eq, eT4_eq, eT5_eq] at hr12; refine WVal_pc hr12 ?_)
        try simp only [go_sem]
        cases h
        exact ⟨rfl, Up.of (N := 21) (N' := 24) [] rfl rfl (by decide) (.set (.d _) (.set (.ptr' rfl) (.set (.ptr' rfl) (.set (.ptr' rfl) (.set (.ptr' rfl) (.set (.d _) RegsR.none)))))) (.set BlkR.refl_d (.set BlkR.refl_d (.set BlkR.refl_d (.set BlkR.refl_d BlksR.at))))⟩
      · rw [if_neg (show ¬ (r7 == 0) = true by first | (rw [hc10]; exact Bool.false_ne_true) | simpa using hc10 | (simp at hc10 ⊢; omega))] at h
        try simp only [go_sem]
        cases h
        exact ⟨rfl, Up.of (N := 21) (N' := 21) [] rfl rfl (by decide) (.set (.d _) (.set (.ptr' rfl) (.set (.ptr' rfl) (.set (.ptr' rfl) (.set (.ptr' rfl) (.set (.d _) RegsR.none)))))) (.set BlkR.refl_d (.set BlkR.refl_d (.set BlkR.refl_d (.set BlkR.refl_d BlksR.at))))⟩
    · try simp only [go_sem]
      first | refine WBr_splitN (fun hc15 => ?_) (fun hc16 => ?_) | refine WBr_split (fun hc15 => ?_) (fun hc16 => ?_)
      · rw [if_pos (show (!(r13 == 0)) = true by first | exact hc15 | simpa using hc15)] at h
        try simp only [go_sem]
        cases h
        first | rfl | (simp only [go_sem]; done) | (simp only [go_sem]; rfl) | (simp [eListeners, eListener, eEvent, eRun, eCall, eStep, eEffects, elisten_place, hc15]; done)
      · rw [if_neg (show ¬ (!(r13 == 0)) = true by first | (rw [hc16]; exact Bool.false_ne_true) | simpa using hc16 | (simp at hc16 ⊢; omega))] at h
        try simp only [go_sem]
        obtain ⟨r52, hl53, h⟩ := Option.bind_eq_some_iff.1 h
        refine Wp.loopR locs (n := 0) (a := c50B2) rfl (L50_0_S a4) (L50_0_F a4) (L50_0_ok a4) hl53 ?_ (by (repeat (first | refine Clo.block ?_ | refine Clo.seq locs rfl ?_)); (first | exact Clo.ret | exact Clo.lpost | exact Clo.cpost)) ?_
        · show Up 0 (L50_0_S a4 (a0, r1.1, [])) _
          delta L50_0_S
          refine Up.of (N := 24) (N' := 24) [] rfl rfl (by decide) ?_ ?_
          · refine RegsR.set ?_ (RegsR.set ?_ (RegsR.set ?_ (RegsR.set ?_ (RegsR.set ?_ (RegsR.set ?_ RegsR.none)))))
            all_goals (try simp only [go_sem, List.map_append, List.map_cons, List.map_nil])
            all_goals (first | exact VR.d _ | exact VR.mb rfl | exact VR.ptr' rfl | (simp only [eListeners, eListener, eEvent, eRun, eCall, eStep, eEffects, elisten_place, hc16]; exact VR.d _))
          · refine BlksR.set (show BlkR _ _ (Heap.get _ 23) from ?_) (BlksR.set (show BlkR _ _ (Heap.get _ 14) from ?_) (BlksR.set (show BlkR _ _ (Heap.get _ 4) from ?_) (BlksR.set (show BlkR _ _ (Heap.get _ 3) from ?_) (BlksR.set (show BlkR _ _ (Heap.get _ 0) from ?_) (BlksR.at)))))
            all_goals (try simp only [go_sem, List.map_append, List.map_cons, List.map_nil])
            all_goals (first | trivial | exact BlkR.refl_d | exact BlkR.map_d | exact BlkR.map_0 | exact BR.map .nil | (refine BlkR.els (Nat.le_refl _) (VRL.cons ?_ VRL.nil); (first | exact VR.d _ | exact VR.ptr' rfl | exact VR.mb rfl | exact VR.sl'' rfl (by simp) | exact VR.mb_sl (by simp) rfl (by simp) | exact VR.undef _ | (refine VR.clo' ?_ ?_ <;> (repeat (first | refine VRL.append ?_ ?_ | exact VRL.nil | refine VRL.cons (by first | exact VR.d _ | exact VR.ptr' rfl | exact VR.mb rfl | exact VR.sl'' rfl (by simp) | exact VR.mb_sl (by simp) rfl (by simp) | exact VR.undef _) ?_ | exact VRL.refl_d _ _)); done) | (refine VRL.ofC ?_; (repeat (first | refine VRL.append ?_ ?_ | exact VRL.nil | refine VRL.cons (by first | exact VR.d _ | exact VR.ptr' rfl | exact VR.mb rfl | exact VR.sl'' rfl (by simp) | exact VR.mb_sl (by simp) rfl (by simp) | exact VR.undef _) ?_ | exact VRL.refl_d _ _)); done) | (refine VRL.ofCa ?_ rfl; (repeat (first | refine VRL.append ?_ ?_ | exact VRL.nil | refine VRL.cons (by first | exact VR.d _ | exact VR.ptr' rfl | exact VR.mb rfl | exact VR.sl'' rfl (by simp) | exact VR.mb_sl (by simp) rfl (by simp) | exact VR.undef _) ?_ | exact VRL.refl_d _ _)); done) | (refine VRL.ofCells ?_; (repeat (first | refine VRL.append ?_ ?_ | exact VRL.nil | refine VRL.cons (by first | exact VR.d _ | exact VR.ptr' rfl | exact VR.mb rfl | exact VR.sl'' rfl (by simp) | exact VR.mb_sl (by simp) rfl (by simp) | exact VR.undef _) ?_ | exact VRL.refl_d _ _)); done) | (refine VRL.tuple ?_; (repeat (first | refine VRL.append ?_ ?_ | exact VRL.nil | refine VRL.cons (by first | exact VR.d _ | exact VR.ptr' rfl | exact VR.mb rfl | exact VR.sl'' rfl (by simp) | exact VR.mb_sl (by simp) rfl (by simp) | exact VR.undef _) ?_ | exact VRL.refl_d _ _)); done) | (refine VRL.agg ?_; (repeat (first | refine VRL.append ?_ ?_ | exact VRL.nil | refine VRL.cons (by first | exact VR.d _ | exact VR.ptr' rfl | exact VR.mb rfl | exact VR.sl'' rfl (by simp) | exact VR.mb_sl (by simp) rfl (by simp) | exact VR.undef _) ?_ | exact VRL.refl_d _ _)); done)); done) | (refine BlkR.els (by simp) ?_; (repeat (first | refine VRL.append ?_ ?_ | exact VRL.nil | refine VRL.cons (by first | exact VR.d _ | exact VR.ptr' rfl | exact VR.mb rfl | exact VR.sl'' rfl (by simp) | exact VR.mb_sl (by simp) rfl (by simp) | exact VR.undef _) ?_ | exact VRL.refl_d _ _)); done) | (refine BlkR.mb_els (by simp) ?_; (repeat (first | refine VRL.append ?_ ?_ | exact VRL.nil | refine VRL.cons (by first | exact VR.d _ | exact VR.ptr' rfl | exact VR.mb rfl | exact VR.sl'' rfl (by simp) | exact VR.mb_sl (by simp) rfl (by simp) | exact VR.undef _) ?_ | exact VRL.refl_d _ _)); done) | (refine BlkR.mb (by simp) ?_; (repeat (first | refine VRL.append ?_ ?_ | exact VRL.nil | refine VRL.cons (by first | exact VR.d _ | exact VR.ptr' rfl | exact VR.mb rfl | exact VR.sl'' rfl (by simp) | exact VR.mb_sl (by simp) rfl (by simp) | exact VR.undef _) ?_ | exact VRL.refl_d _ _)); done) | (simp only [eListeners, eListener, eEvent, eRun, eCall, eStep, eEffects, elisten_place, hc16]; exact BlkR.refl_d))
        · dsimp only [L50_0_F]
          try simp only [go_sem]
          obtain ⟨r54, hr55, h⟩ := Option.bind_eq_some_iff.1 h
          replace hr55 := dec_some hr55
          first | refine WVal_pc hr55 ?_ | (simp only [eT2_eq, eT3_eq, eT4_eq, eT5_eq] at hr55; refine WVal_pc hr55 ?_)
          try simp only [go_sem]
          cases h
          refine Reads.ofv (v' := V.ofTuple [mb 23 (r52.1.map fun z => V.d (eCall z)), .d (eListeners r52.2.1), .d (eEvent r54.1), .d (.bool r54.2.1), .d (.int .i64 (0))]) (by first | rfl | simp only [go_sem, List.map_append, List.map_cons, List.map_nil]) (Rd.tuple (RdL.cons (Rd.mb (e := eCall) (l := r52.1) (sz := 3) (fz := r52.1.length) (by simp only [go_sem, List.map_append, List.map_cons, List.map_nil])) (RdL.cons Rd.d (RdL.cons Rd.d (RdL.cons Rd.d (RdL.cons Rd.d RdL.nil)))))) rfl
noncomputable def L51_0_step (a2 : Event) (a4 : Sl (Effects)) (x0 : Listeners × Run × List (Call)) : Option ((Listeners × Run × List (Call)) ⊕ ((List (Call) × Listeners × Run))) :=
  (dec (eT5 eRun eListeners eCall D.bool (D.int .i64)) (pc prog 47 [eListeners x0.1, eRun x0.2.1])).bind fun r17 =>
  if (!r17.2.2.2.1) = true then
    some (.inr (x0.2.2, r17.2.1, r17.1))
  else
    if (x0.2.2.length + 1) * 24 ≤ AI.roomBytes then
      (dec (eT2 eListeners eRun) (pc prog 86 [eListeners r17.2.1, eRun r17.1, .int .i64 r17.2.2.1.callback, .list a4.n (a4.l.map eEffects)])).bind fun r22 =>
      some (.inl (r22.1, r22.2, (x0.2.2 ++ [r17.2.2.1])))
    else none
def L52_0_F (a0 : Sl (Call)) (a1 : Sl (Call)) : ((Unit) ⊕ (Unit)) → Ex × St := fun r => match r with
  | (.inl r) => (.exit 0, ⟨Regs.none, (Heap.at 7)⟩)
  | (.inr r) => (.ret, ⟨(Regs.none.set 4 (.d (.bool false))), (Heap.at 7)⟩)
def L82_0_S (a0 : Sl (Effects)) (x0 : Int) : St := ⟨((((Regs.none.set 0 (.d (.list a0.n (a0.l.map eEffects)))).set 10 (.d (.list a0.n (a0.l.map eEffects)))).set 11 (.d (.int .i64 (a0.l.length : Int)))).set 12 (.d (.int .i64 x0))), (Heap.at 7)⟩
def L82_0_F (a0 : Sl (Effects)) : ((Unit) ⊕ (Unit)) → Ex × St := fun r => match r with
  | (.inl r) => (.exit 0, ⟨(Regs.none.set 0 (.d (.list a0.n (a0.l.map eEffects)))), (Heap.at 7)⟩)
  | (.inr r) => (.ret, ⟨(Regs.none.set 2 (.d (.int .i64 (3)))), (Heap.at 7)⟩)
noncomputable def L82_0_step (a0 : Sl (Effects)) (x0 : Int) : Option ((Int) ⊕ ((Unit) ⊕ (Unit))) :=
  if (decide (x0 < (a0.l.length : Int))) = true then
    (rd a0.l x0).bind fun y5 =>
    if (bif (decide (4096 < (y5.does.l.length : Int))) then true else (decide (4096 < (y5.gone.l.length : Int)))) = true then
      some (.inr (.inr ()))
    else
      some (.inl (IntKind.wrap .i64 (x0 + 1)))
  else
    some (.inr (.inl ()))
theorem L82_0_ok (a0 : Sl (Effects)) (x0 : Int) (o : (Int) ⊕ ((Unit) ⊕ (Unit))) (h : L82_0_step a0 x0 = some o) : Wp prog c82B0 (L82_0_S a0 x0) (LPost 0 (L82_0_S a0) (L82_0_F a0) o) := by
  unfold L82_0_step at h
  delta c82B0 L82_0_S
  try simp only [go_sem]
  first | refine WBr_splitN (fun hc3 => ?_) (fun hc4 => ?_) | refine WBr_split (fun hc3 => ?_) (fun hc4 => ?_)
  · rw [if_pos (show (decide (x0 < (a0.l.length : Int))) = true by first | exact hc3 | simpa using hc3)] at h
    try simp only [go_sem]
    obtain ⟨y5, hy6, h⟩ := Option.bind_eq_some_iff.1 h
    try simp only [go_sem, rd_pos hy6, rd_ge hy6, rd_map eEffects hy6]
    refine WGuard_pure (v := .ptr 10 0 2) (fun hb12 => by skip; simp only [go_sem, rd_pos hy6, rd_ge hy6, rd_map eEffects hy6, hc3, hb12]) ?_
    try simp only [go_sem, rd_pos hy6, rd_ge hy6, rd_map eEffects hy6]
    refine WGuard_pure (v := .d (.list y5.gone.n (y5.gone.l.map (D.int .i64)))) (fun hb11 => by skip; simp only [go_sem, rd_pos hy6, rd_ge hy6, rd_map eEffects hy6, hc3, hb11]) ?_
    try simp only [go_sem, rd_pos hy6, rd_ge hy6, rd_map eEffects hy6]
    refine WGuard_pure (v := .d (.int .i64 (y5.gone.l.length : Int))) (fun hb10 => by skip; simp only [go_sem, rd_pos hy6, rd_ge hy6, rd_map eEffects hy6, hc3, hb10]) ?_
    try simp only [go_sem, rd_pos hy6, rd_ge hy6, rd_map eEffects hy6]
    refine WGuard_pure (v := .d (.bool (decide (4096 < (y5.gone.l.length : Int))))) (fun hb9 => by skip; simp only [go_sem, rd_pos hy6, rd_ge hy6, rd_map eEffects hy6, hc3, hb9]) ?_
    try simp only [go_sem, rd_pos hy6, rd_ge hy6, rd_map eEffects hy6]
    first | refine WBr_splitN (fun hc7 => ?_) (fun hc8 => ?_) | refine WBr_split (fun hc7 => ?_) (fun hc8 => ?_)
    · rw [if_pos (show (bif (decide (4096 < (y5.does.l.length : Int))) then true else (decide (4096 < (y5.gone.l.length : Int)))) = true by first | exact hc7 | simpa using hc7)] at h
      try simp only [go_sem, rd_pos hy6, rd_ge hy6, rd_map eEffects hy6]
      cases h
      exact ⟨rfl, by simp, Up.of (N := 7) (N' := 23) [] rfl rfl (by decide) (.set (.d _) RegsR.none) BlksR.at⟩
    · rw [if_neg (show ¬ (bif (decide (4096 < (y5.does.l.length : Int))) then true else (decide (4096 < (y5.gone.l.length : Int)))) = true by first | (rw [hc8]; exact Bool.false_ne_true) | simpa using hc8 | (simp at hc8 ⊢; omega))] at h
      try simp only [go_sem, rd_pos hy6, rd_ge hy6, rd_map eEffects hy6]
      cases h
      exact ⟨rfl, Up.of (N := 7) (N' := 24) [] rfl rfl (by decide) (.set (.d _) (.set (.d _) (.set (.d _) (.set (.d _) RegsR.none)))) BlksR.at⟩
  · rw [if_neg (show ¬ (decide (x0 < (a0.l.length : Int))) = true by first | (rw [hc4]; exact Bool.false_ne_true) | simpa using hc4 | (simp at hc4 ⊢; omega))] at h
    try simp only [go_sem]
    cases h
    exact ⟨rfl, by simp, Up.of (N := 7) (N' := 8) [] rfl rfl (by decide) (.set (.d _) RegsR.none) BlksR.at⟩
def L82_2_S (y18 : Effects) (x2 : Int) : St := ⟨((((Regs.none.set 0 (.d (.list y18.does.n (y18.does.l.map (D.int .u8))))).set 1 (.d (.fn 95))).set 7 (.d (.int .i64 (y18.does.l.length : Int)))).set 8 (.d (.int .i64 x2))), ((Heap.at 28).set 13 (some (.els 3 [.d (eEffects y18)] 0)))⟩
def L82_2_F (y18 : Effects) : ((Unit) ⊕ (Int)) → Ex × St := fun r => match r with
  | (.inl r) => (.exit 0, ⟨Regs.none, ((Heap.at 28).set 13 (some (.els 3 [.d (eEffects y18)] 0)))⟩)
  | (.inr r) => (.ret, ⟨(Regs.none.set 4 (.d (.int .i64 r))), ((Heap.at 28).set 13 (some (.els 3 [.d (eEffects y18)] 0)))⟩)
noncomputable def L82_2_step (y18 : Effects) (x2 : Int) : Option ((Int) ⊕ ((Unit) ⊕ (Int))) :=
  if (decide (x2 < (y18.does.l.length : Int))) = true then
    (rd y18.does.l x2).bind fun y22 =>
    if (decide (4 ≤ y22)) = true then
      some (.inr (.inr x2))
    else
      some (.inl (IntKind.wrap .i64 (x2 + 1)))
  else
    some (.inr (.inl ()))
theorem L82_2_ok (y18 : Effects) (x2 : Int) (o : (Int) ⊕ ((Unit) ⊕ (Int))) (h : L82_2_step y18 x2 = some o) : Wp prog c97B0 (L82_2_S y18 x2) (LPost 24 (L82_2_S y18) (L82_2_F y18) o) := by
  unfold L82_2_step at h
  delta c97B0 L82_2_S
  try simp only [go_sem]
  first | refine WBr_splitN (fun hc20 => ?_) (fun hc21 => ?_) | refine WBr_split (fun hc20 => ?_) (fun hc21 => ?_)
  · rw [if_pos (show (decide (x2 < (y18.does.l.length : Int))) = true by first | exact hc20 | simpa using hc20)] at h
    try simp only [go_sem]
    obtain ⟨y22, hy23, h⟩ := Option.bind_eq_some_iff.1 h
    try simp only [go_sem, rd_pos hy23, rd_ge hy23, rd_map (D.int .u8) hy23]
    refine WVal_inl (fn := c95) rfl rfl ?_
    delta c95
    try simp only [go_sem, rd_pos hy23, rd_ge hy23, rd_map (D.int .u8) hy23]
    first | refine WBr_splitN (fun hc24 => ?_) (fun hc25 => ?_) | refine WBr_split (fun hc24 => ?_) (fun hc25 => ?_)
    · rw [if_pos (show (decide (4 ≤ y22)) = true by first | exact hc24 | simpa using hc24)] at h
      try simp only [go_sem, rd_pos hy23, rd_ge hy23, rd_map (D.int .u8) hy23]
      cases h
      exact ⟨rfl, by simp, Up.of (N := 28) (N' := 43) [] rfl rfl (by decide) (.set (.d _) RegsR.none) (.set BlkR.refl_d BlksR.at)⟩
    · rw [if_neg (show ¬ (decide (4 ≤ y22)) = true by first | (rw [hc25]; exact Bool.false_ne_true) | simpa using hc25 | (simp at hc25 ⊢; omega))] at h
      try simp only [go_sem, rd_pos hy23, rd_ge hy23, rd_map (D.int .u8) hy23]
      cases h
      exact ⟨rfl, Up.of (N := 28) (N' := 43) [] rfl rfl (by decide) (.set (.d _) (.set (.d _) (.set (.d _) (.set (.d _) RegsR.none)))) (.set BlkR.refl_d BlksR.at)⟩
  · rw [if_neg (show ¬ (decide (x2 < (y18.does.l.length : Int))) = true by first | (rw [hc21]; exact Bool.false_ne_true) | simpa using hc21 | (simp at hc21 ⊢; omega))] at h
    try simp only [go_sem]
    cases h
    exact ⟨rfl, by simp, Up.of (N := 28) (N' := 29) [] rfl rfl (by decide) RegsR.none (.set BlkR.refl_d BlksR.at)⟩
def L82_1_S (a0 : Sl (Effects)) (x1 : Int) : St := ⟨(((Regs.none.set 27 (.d (.list a0.n (a0.l.map eEffects)))).set 28 (.d (.int .i64 (a0.l.length : Int)))).set 29 (.d (.int .i64 x1))), (Heap.at 10)⟩
def L82_1_F (a0 : Sl (Effects)) : ((Unit) ⊕ (Unit)) → Ex × St := fun r => match r with
  | (.inl r) => (.exit 2, ⟨Regs.none, (Heap.at 10)⟩)
  | (.inr r) => (.ret, ⟨(Regs.none.set 2 (.d (.int .i64 (23)))), (Heap.at 10)⟩)
noncomputable def L82_1_step (a0 : Sl (Effects)) (x1 : Int) : Option ((Int) ⊕ ((Unit) ⊕ (Unit))) :=
  if (decide (x1 < (a0.l.length : Int))) = true then
    (rd a0.l x1).bind fun y18 =>
    (loopV (L82_2_step y18) 0).bind fun r26 =>
    match r26 with
    | (.inl q28) =>
      some (.inl (IntKind.wrap .i64 (x1 + 1)))
    | (.inr q29) =>
      if (decide (0 ≤ q29)) = true then
        some (.inr (.inr ()))
      else
        some (.inl (IntKind.wrap .i64 (x1 + 1)))
  else
    some (.inr (.inl ()))
theorem L82_1_ok (a0 : Sl (Effects)) (x1 : Int) (o : (Int) ⊕ ((Unit) ⊕ (Unit))) (h : L82_1_step a0 x1 = some o) : Wp prog c82B1 (L82_1_S a0 x1) (LPost 0 (L82_1_S a0) (L82_1_F a0) o) := by
  unfold L82_1_step at h
  delta c82B1 L82_1_S
  try simp only [go_sem]
  first | refine WBr_splitN (fun hc16 => ?_) (fun hc17 => ?_) | refine WBr_split (fun hc16 => ?_) (fun hc17 => ?_)
  · rw [if_pos (show (decide (x1 < (a0.l.length : Int))) = true by first | exact hc16 | simpa using hc16)] at h
    try simp only [go_sem]
    obtain ⟨y18, hy19, h⟩ := Option.bind_eq_some_iff.1 h
    try simp only [go_sem, rd_pos hy19, rd_ge hy19, rd_map eEffects hy19]
    refine WVal_inl (fn := c94) rfl rfl ?_
    delta c94
    try simp only [go_sem, rd_pos hy19, rd_ge hy19, rd_map eEffects hy19]
    refine WVal_inl (fn := c97) rfl rfl ?_
    delta c97
    try simp only [go_sem, rd_pos hy19, rd_ge hy19, rd_map eEffects hy19]
    obtain ⟨r26, hl27, h⟩ := Option.bind_eq_some_iff.1 h
    refine Wp.loopR locs (n := 24) (a := c97B0) rfl (L82_2_S y18) (L82_2_F y18) (L82_2_ok y18) hl27 ?_ (by (repeat (first | refine Clo.block ?_ | refine Clo.seq locs rfl ?_)); refine Clo.inl locs (n' := 18) rfl rfl rfl ?_ ?_ (show 19 + 5 ≤ _ from by decide) (by decide) ?_; ((repeat (first | exact SelfR.no | exact SelfR.none | refine SelfR.set ?_ ?_ | refine SelfR.args ?_ | exact SelfL.nil | refine SelfL.cons ?_ ?_ | exact Self.d | exact Self.undef | exact Self.rp | exact Self.ptr (by decide) | exact Self.sl (by decide) | exact Self.mb (by decide) | exact Self.map (by decide) | exact Self.yld (by decide) | refine Self.clo ?_ ?_ | refine Self.ofCells ?_ | refine Self.agg ?_ | refine Self.tuple ?_ | refine Self.bif ?_ ?_)); (repeat (first | exact SelfR.no | exact SelfR.none | refine SelfR.set ?_ ?_ | refine SelfR.args ?_ | exact SelfL.nil | refine SelfL.cons ?_ ?_ | exact Self.d | exact Self.undef | exact Self.rp | exact Self.ptr (by decide) | exact Self.sl (by decide) | exact Self.mb (by decide) | exact Self.map (by decide) | exact Self.yld (by decide) | refine Self.clo ?_ ?_ | refine Self.ofCells ?_ | refine Self.agg ?_ | refine Self.tuple ?_ | refine Self.bif ?_ ?_))); (repeat (first | refine Clo.block ?_ | refine Clo.seq locs rfl ?_)); refine Clo.inl locs (n' := 0) rfl rfl rfl ?_ ?_ (show 15 + 3 ≤ _ from by decide) (by decide) ?_; ((repeat (first | exact SelfR.no | exact SelfR.none | refine SelfR.set ?_ ?_ | refine SelfR.args ?_ | exact SelfL.nil | refine SelfL.cons ?_ ?_ | exact Self.d | exact Self.undef | exact Self.rp | exact Self.ptr (by decide) | exact Self.sl (by decide) | exact Self.mb (by decide) | exact Self.map (by decide) | exact Self.yld (by decide) | refine Self.clo ?_ ?_ | refine Self.ofCells ?_ | refine Self.agg ?_ | refine Self.tuple ?_ | refine Self.bif ?_ ?_)); (repeat (first | exact SelfR.no | exact SelfR.none | refine SelfR.set ?_ ?_ | refine SelfR.args ?_ | exact SelfL.nil | refine SelfL.cons ?_ ?_ | exact Self.d | exact Self.undef | exact Self.rp | exact Self.ptr (by decide) | exact Self.sl (by decide) | exact Self.mb (by decide) | exact Self.map (by decide) | exact Self.yld (by decide) | refine Self.clo ?_ ?_ | refine Self.ofCells ?_ | refine Self.agg ?_ | refine Self.tuple ?_ | refine Self.bif ?_ ?_))); (repeat (first | refine Clo.block ?_ | refine Clo.seq locs rfl ?_)); (first | exact Clo.ret | exact Clo.lpost | exact Clo.cpost)) ?_
    · show Up 24 (L82_2_S y18 0) _
      delta L82_2_S
      exact Up.of (N := 28) (N' := 28) [] rfl rfl (by decide) (.set (.d _) (.set (.d _) (.set (.d _) (.set (.d _) RegsR.none)))) (.set BlkR.refl_d BlksR.at)
    · rcases r26 with (q28 | q29)
      · dsimp only at h
        dsimp only [L82_2_F]
        try simp only [go_sem, rd_pos hy19, rd_ge hy19, rd_map eEffects hy19]
        cases h
        exact ⟨rfl, Up.of (N := 10) (N' := 31) [] rfl rfl (by decide) (.set (.d _) (.set (.d _) (.set (.d _) RegsR.none))) BlksR.at⟩
      · dsimp only at h
        dsimp only [L82_2_F]
        try simp only [go_sem, rd_pos hy19, rd_ge hy19, rd_map eEffects hy19]
        first | refine WBr_splitN (fun hc30 => ?_) (fun hc31 => ?_) | refine WBr_split (fun hc30 => ?_) (fun hc31 => ?_)
        · rw [if_pos (show (decide (0 ≤ q29)) = true by first | exact hc30 | simpa using hc30)] at h
          try simp only [go_sem, rd_pos hy19, rd_ge hy19, rd_map eEffects hy19]
          cases h
          exact ⟨rfl, by simp, Up.of (N := 10) (N' := 29) [] rfl rfl (by decide) (.set (.d _) RegsR.none) BlksR.at⟩
        · rw [if_neg (show ¬ (decide (0 ≤ q29)) = true by first | (rw [hc31]; exact Bool.false_ne_true) | simpa using hc31 | (simp at hc31 ⊢; omega))] at h
          try simp only [go_sem, rd_pos hy19, rd_ge hy19, rd_map eEffects hy19]
          cases h
          exact ⟨rfl, Up.of (N := 10) (N' := 30) [] rfl rfl (by decide) (.set (.d _) (.set (.d _) (.set (.d _) RegsR.none))) BlksR.at⟩
  · rw [if_neg (show ¬ (decide (x1 < (a0.l.length : Int))) = true by first | (rw [hc17]; exact Bool.false_ne_true) | simpa using hc17 | (simp at hc17 ⊢; omega))] at h
    try simp only [go_sem]
    cases h
    exact ⟨rfl, by simp, Up.of (N := 10) (N' := 11) [] rfl rfl (by decide) RegsR.none BlksR.at⟩
noncomputable def P82 (a0 : Sl (Effects)) : Option (Int) :=
  if (decide (4096 < (a0.l.length : Int))) = true then
    some (3)
  else
    (loopV (L82_0_step a0) 0).bind fun r13 =>
    match r13 with
    | (.inl q15) =>
      (loopV (L82_1_step a0) 0).bind fun r32 =>
      match r32 with
      | (.inl q34) =>
        some (0)
      | (.inr q35) =>
        some (23)
    | (.inr q36) =>
      some (3)
theorem ok82 (a0 : Sl (Effects)) (r : Int) (h : P82 a0 = some r) : pc prog 82 [.list a0.n (a0.l.map eEffects)] = some ((D.int .i64) r) := by
  unfold P82 at h
  refine pc_of (fn := c82) rfl rfl ?_
  delta c82
  try simp only [go_sem]
  first | refine WBr_splitN (fun hc1 => ?_) (fun hc2 => ?_) | refine WBr_split (fun hc1 => ?_) (fun hc2 => ?_)
  · rw [if_pos (show (decide (4096 < (a0.l.length : Int))) = true by first | exact hc1 | simpa using hc1)] at h
    try simp only [go_sem]
    cases h
    first | rfl | (simp only [go_sem]; done) | (simp only [go_sem]; rfl) | (simp [eListeners, eListener, eEvent, eRun, eCall, eStep, eEffects, elisten_place, hc1]; done)
  · rw [if_neg (show ¬ (decide (4096 < (a0.l.length : Int))) = true by first | (rw [hc2]; exact Bool.false_ne_true) | simpa using hc2 | (simp at hc2 ⊢; omega))] at h
    try simp only [go_sem]
    obtain ⟨r13, hl14, h⟩ := Option.bind_eq_some_iff.1 h
    refine Wp.loopR locs (n := 0) (a := c82B0) rfl (L82_0_S a0) (L82_0_F a0) (L82_0_ok a0) hl14 ?_ (by (repeat (first | refine Clo.block ?_ | refine Clo.seq locs rfl ?_)); (first | exact Clo.ret | exact Clo.lpost | exact Clo.cpost)) ?_
    · show Up 0 (L82_0_S a0 0) _
      delta L82_0_S
      exact Up.of (N := 7) (N' := 7) [] rfl rfl (by decide) (.set (.d _) (.set (.d _) (.set (.d _) (.set (.d _) RegsR.none)))) BlksR.at
    · rcases r13 with (q15 | q36)
      · dsimp only at h
        dsimp only [L82_0_F]
        try simp only [go_sem]
        obtain ⟨r32, hl33, h⟩ := Option.bind_eq_some_iff.1 h
        refine Wp.loopR locs (n := 0) (a := c82B1) rfl (L82_1_S a0) (L82_1_F a0) (L82_1_ok a0) hl33 ?_ (by (repeat (first | refine Clo.block ?_ | refine Clo.seq locs rfl ?_)); (first | exact Clo.ret | exact Clo.lpost | exact Clo.cpost)) ?_
        · show Up 0 (L82_1_S a0 0) _
          delta L82_1_S
          exact Up.of (N := 10) (N' := 10) [] rfl rfl (by decide) (.set (.d _) (.set (.d _) (.set (.d _) RegsR.none))) BlksR.at
        · rcases r32 with (q34 | q35)
          · dsimp only at h
            dsimp only [L82_1_F]
            try simp only [go_sem]
            cases h
            first | rfl | (simp only [go_sem]; done) | (simp only [go_sem]; rfl) | (simp [eListeners, eListener, eEvent, eRun, eCall, eStep, eEffects, elisten_place, hc2]; done)
          · dsimp only at h
            dsimp only [L82_1_F]
            try simp only [go_sem]
            cases h
            first | rfl | (simp only [go_sem]; done) | (simp only [go_sem]; rfl) | (simp [eListeners, eListener, eEvent, eRun, eCall, eStep, eEffects, elisten_place, hc2]; done)
      · dsimp only at h
        dsimp only [L82_0_F]
        try simp only [go_sem]
        cases h
        first | rfl | (simp only [go_sem]; done) | (simp only [go_sem]; rfl) | (simp [eListeners, eListener, eEvent, eRun, eCall, eStep, eEffects, elisten_place, hc2]; done)
def L86_0_F (a0 : Listeners) (a1 : Run) (a2 : Int) (a3 : Sl (Effects)) : ((Unit) ⊕ (Listeners × Run)) → Ex × St := fun r => match r with
  | (.inl r) => (.exit 0, ⟨((((Regs.none.set 4 (.ptr 0 0 0)).set 5 (.ptr 1 0 0)).set 8 (.ptr 2 0 0)).set 9 (.ptr 3 0 0)), (((((Heap.at 5).set 0 (some (.els 2 [.d (eListeners a0)] 0))).set 1 (some (.els 17 [.d (eRun a1)] 0))).set 2 (some (.els 2 [.d (.agg [.list true [], .int .i64 (0)])] 0))).set 3 (some (.els 17 [.d (.agg [.str ([]), .bool false, .bool false, .bool false, .bool false, .bool false, .bool false, .bool false, .bool false, .int .u8 (0), .int .i64 (0), .int .i64 (0), .int .i64 (0), .list true [], .int .i64 (0), .list true [], .bool false])] 0)))⟩)
  | (.inr r) => (.ret, ⟨((Regs.none.set 8 (.ptr 2 0 0)).set 9 (.ptr 3 0 0)), (((Heap.at 5).set 2 (some (.els 2 [.d (eListeners r.1)] 0))).set 3 (some (.els 17 [.d (eRun r.2)] 0)))⟩)
end Go.Proofs.Ytnijbejobbajfaa.D
