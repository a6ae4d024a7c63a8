/- Shaken copy of a longer text: what one law needs. Its conditions: none. -/
import Derived.Test.YthodcjjgimeeoaaGreatRows
import Derived.Test.YthodcjjgimeeoaaGreatZPSpPb
import Derived.Test.YthodcjjgimeeoaaGreatZPLink
import Derived.WalkKit
import Derived.ProofKit
import Derived.OpenShut
import Derived.JoinedCond
import Derived.Test.YthodcjjgimeeoaaGreatZFacts
namespace Go.Proofs.YthodcjjgimeeoaaGreat.pathBuilds
open Go.ChangeShapes Go.WideShapes Go.ChangeAt Go.RowKit
set_option linter.unusedVariables false
set_option linter.unusedSimpArgs false
theorem own : ownKnob Tryz.prog.godebug = none := by kernel_rfl
open Go.AI P in
theorem zQj (xs : List D) (h : HasAll [tyForest, .list (tyAssign), .int .i64, .int .i64, .bool] xs) (hb : D.bulkAll xs ≤ 1048576) : pc P.prog 3 xs = some (.bool true) := by
  obtain ⟨x0, r0, rfl, g0, s0⟩ := zdJ h
  obtain ⟨x1, r1, rfl, g1, s1⟩ := zdJ s0
  obtain ⟨x2, r2, rfl, g2, s2⟩ := zdJ s1
  obtain ⟨x3, r3, rfl, g3, s3⟩ := zdJ s2
  obtain ⟨x4, r4, rfl, g4, s4⟩ := zdJ s3
  obtain rfl := zul s4
  obtain ⟨y0, rfl, o0⟩ := Forest.of g0
  obtain ⟨y1, rfl, o1⟩ := (HasTy.sl_inv (fun _ h => Assign.of h)) g1
  obtain ⟨y2, rfl, o2⟩ := HasTy.int_inv g2
  obtain ⟨y3, rfl, o3⟩ := HasTy.int_inv g3
  obtain ⟨y4, rfl, o4⟩ := HasTy.bool_inv g4
  exact znL y0 y1 y2 y3 y4 o0 o1 o2 o3 o4 hb
theorem zQk (H : Type) : ∃ B : Go.AI.Bulk H, ∀ l, B.all l = Rows.uptoBulkAll l :=
  ⟨⟨Rows.uptoBulk, Rows.uptoBulkAll, by simp only [Rows.uptoBulkAll], fun d r => by simp only [Rows.uptoBulkAll], fun d => by
    cases d with
    | lit l => cases l <;> simp [Rows.uptoBulk]
    | _ => simp [Rows.uptoBulk], fun s => by simp only [Rows.uptoBulk], fun a b => by simp only [Rows.uptoBulk], fun a => by simp only [Rows.uptoBulk]⟩, fun _ => rfl⟩
set_option maxRecDepth 100000 in
theorem zEU (H : Type) (enc : TypeId × Value → H) (W : World) (base : Nat) (args : Array Value) (ds gs : List (DataW H)) (before : List MemPlace)
    (hval : ∀ (j : Nat) t v, Tryz.f3.params[j]? = some t → args[j]? = some v → Value.okWide Tryz.prog W .any base t v)
    (hW : DataW.Whole enc Tryz.prog Tryz.f3.params.toList Rows.pathBuildsSpec.vars false W args.toList ds gs before) (hk : Rows.uptoSmall H (ds ++ gs) = true) :
    Calls Tryz.prog 3 args W fun e W' => ∃ v, e = .returned v ∧ Rows.pathBuildsSpec.post enc Tryz.prog Tryz.f3 false true false false W args v W' := by
  obtain ⟨Bk, hB⟩ := zQk H
  have hk' : Bk.all (ds ++ gs) ≤ 1048576 := by
    rw [hB]
    exact of_decide_eq_true (p := Rows.uptoBulkAll (ds ++ gs) ≤ 1048576) hk
  exact Go.AI.law_contract P.linked Bk enc Tryz.func3 (Ts := [P.tyForest, .list (P.tyAssign), .int .i64, .int .i64, .bool]) (by kernel_rfl) (tb := 4) (by kernel_rfl) (by kernel_rfl) (by kernel_rfl) (by kernel_rfl) rfl (fun ds hd => by
    match ds, hd with
    | [_, _, _, _, _], _ => rfl) zQj W (fun x hx => by cases hx) base args ds gs before hval hW hk'
set_option maxRecDepth 100000 in
theorem lifted (os : Os) (started : os.Started) (H : Type) (enc : TypeId × Value → H) (F : Stop.Interp) :
    ReturnsInHanded {} Tryz.checked os 3 .any ((Rows.OpenSpec.upto Rows.pathBuildsSpec).pre6 enc Tryz.prog Tryz.f3 Rows.pathBuildsUptoRow.domain false) (((Rows.OpenSpec.upto Rows.pathBuildsSpec).at F).post enc Tryz.prog Tryz.f3 false true false false) := by
  refine returnsInHanded_of_cond (C := Tryz.checked) (s := Rows.OpenSpec.upto Rows.pathBuildsSpec) (k := Rows.uptoSmall) rfl own started (by kernel_rfl) Tryz.func3
    (OpenSpec.witness (enc := enc) (C := Tryz.checked) (s := Rows.OpenSpec.upto Rows.pathBuildsSpec) (k := Rows.uptoSmall) rfl false ⟨#[], #[.agg #[.slice none 0 0], .slice none 0 0, .int .i64 0, .int .i64 0, .bool false], []⟩ 8 (by kernel_rfl) (by kernel_rfl) (by kernel_rfl)
      (x := ([.agg [.nil], .nil, .lit (.int .i64 0), .lit (.int .i64 0), .lit (.bool false)], [], [])) (by kernel_rfl) rfl (by kernel_rfl)) ?_
  intro W base args ds gs before hval hW _ hk _
  exact zEU H enc W base args ds gs before hval hW hk
theorem zQl : (fun (P : Program) (f : FuncId) (fn : Func) (s : ChangeSpec) (c : OpenClaim) => (c.wf (OpenSpec.ofChange s) : Bool)) Tryz.prog 3 Tryz.f3 ((Rows.OpenSpec.upto Rows.pathBuildsSpec).bare) (Rows.pathBuildsUptoRow) = true := by kernel_rfl
theorem zQm : (fun (P : Program) (f : FuncId) (fn : Func) (s : ChangeSpec) (c : OpenClaim) => (fn.params.all (P.readableRec ·) : Bool)) Tryz.prog 3 Tryz.f3 ((Rows.OpenSpec.upto Rows.pathBuildsSpec).bare) (Rows.pathBuildsUptoRow) = true := by kernel_rfl
theorem zQn : (fun (P : Program) (f : FuncId) (fn : Func) (s : ChangeSpec) (c : OpenClaim) => (namedTie P c.named s.vars : Bool)) Tryz.prog 3 Tryz.f3 ((Rows.OpenSpec.upto Rows.pathBuildsSpec).bare) (Rows.pathBuildsUptoRow) = true := by kernel_rfl
theorem zQo : (fun (P : Program) (f : FuncId) (fn : Func) (s : ChangeSpec) (c : OpenClaim) => ((c.stops == []) : Bool)) Tryz.prog 3 Tryz.f3 ((Rows.OpenSpec.upto Rows.pathBuildsSpec).bare) (Rows.pathBuildsUptoRow) = true := by kernel_rfl
theorem zQp : (fun (P : Program) (f : FuncId) (fn : Func) (s : ChangeSpec) (c : OpenClaim) => ((c.knobs == []) : Bool)) Tryz.prog 3 Tryz.f3 ((Rows.OpenSpec.upto Rows.pathBuildsSpec).bare) (Rows.pathBuildsUptoRow) = true := by kernel_rfl
theorem zMq : (fun (P : Program) (f : FuncId) (fn : Func) (s : ChangeSpec) (c : OpenClaim) => ((c.inPlace == P.inPlace f) : Bool)) Tryz.prog 3 Tryz.f3 ((Rows.OpenSpec.upto Rows.pathBuildsSpec).bare) (Rows.pathBuildsUptoRow) = true := by kernel_rfl
theorem zMr : (fun (P : Program) (f : FuncId) (fn : Func) (s : ChangeSpec) (c : OpenClaim) => ((c.unfollowed == P.unfollowed f) : Bool)) Tryz.prog 3 Tryz.f3 ((Rows.OpenSpec.upto Rows.pathBuildsSpec).bare) (Rows.pathBuildsUptoRow) = true := by kernel_rfl
theorem zMs : (fun (P : Program) (f : FuncId) (fn : Func) (s : ChangeSpec) (c : OpenClaim) => ((c.recurses == P.recurses f) : Bool)) Tryz.prog 3 Tryz.f3 ((Rows.OpenSpec.upto Rows.pathBuildsSpec).bare) (Rows.pathBuildsUptoRow) = true := by kernel_rfl
theorem zMt : (fun (P : Program) (f : FuncId) (fn : Func) (s : ChangeSpec) (c : OpenClaim) => ((c.named == P.varsNamed f) : Bool)) Tryz.prog 3 Tryz.f3 ((Rows.OpenSpec.upto Rows.pathBuildsSpec).bare) (Rows.pathBuildsUptoRow) = true := by kernel_rfl
theorem zMu : (fun (P : Program) (f : FuncId) (fn : Func) (s : ChangeSpec) (c : OpenClaim) => ((c.maps == (fn.params.toList ++ s.plain.varTypes P).any (P.mapsRec ·)) : Bool)) Tryz.prog 3 Tryz.f3 ((Rows.OpenSpec.upto Rows.pathBuildsSpec).bare) (Rows.pathBuildsUptoRow) = true := by kernel_rfl
theorem zMv : (fun (P : Program) (f : FuncId) (fn : Func) (s : ChangeSpec) (c : OpenClaim) => ((c.ifaces == (fn.params.toList ++ s.plain.varTypes P).any (P.ifacesRec ·)) : Bool)) Tryz.prog 3 Tryz.f3 ((Rows.OpenSpec.upto Rows.pathBuildsSpec).bare) (Rows.pathBuildsUptoRow) = true := by kernel_rfl
theorem zMw : (fun (P : Program) (f : FuncId) (fn : Func) (s : ChangeSpec) (c : OpenClaim) => ((c.mapsOut == P.mapsAmong fn.resultTypes.toList) : Bool)) Tryz.prog 3 Tryz.f3 ((Rows.OpenSpec.upto Rows.pathBuildsSpec).bare) (Rows.pathBuildsUptoRow) = true := by kernel_rfl
theorem zMx : (fun (P : Program) (f : FuncId) (fn : Func) (s : ChangeSpec) (c : OpenClaim) => ((c.loops == (fn.params.toList ++ s.plain.varTypes P).any (P.loopsFrom ·)) : Bool)) Tryz.prog 3 Tryz.f3 ((Rows.OpenSpec.upto Rows.pathBuildsSpec).bare) (Rows.pathBuildsUptoRow) = true := by kernel_rfl
theorem zMy : (fun (P : Program) (f : FuncId) (fn : Func) (s : ChangeSpec) (c : OpenClaim) => ((c.wideKeys == (fn.params.toList ++ s.plain.varTypes P ++ fn.resultTypes.toList).any (P.wideKeysFrom ·)) : Bool)) Tryz.prog 3 Tryz.f3 ((Rows.OpenSpec.upto Rows.pathBuildsSpec).bare) (Rows.pathBuildsUptoRow) = true := by kernel_rfl
theorem zMz : (fun (P : Program) (f : FuncId) (fn : Func) (s : ChangeSpec) (c : OpenClaim) => (s.vars.all (P.varReadable ·) : Bool)) Tryz.prog 3 Tryz.f3 ((Rows.OpenSpec.upto Rows.pathBuildsSpec).bare) (Rows.pathBuildsUptoRow) = true := by kernel_rfl
theorem zMA : (fun (P : Program) (f : FuncId) (fn : Func) (s : ChangeSpec) (c : OpenClaim) => (fn.resultTypes.all (fun t => P.readableRec t && decide (t < P.types.size)) : Bool)) Tryz.prog 3 Tryz.f3 ((Rows.OpenSpec.upto Rows.pathBuildsSpec).bare) (Rows.pathBuildsUptoRow) = true := by kernel_rfl
theorem zMB : (fun (P : Program) (f : FuncId) (fn : Func) (s : ChangeSpec) (c : OpenClaim) => ((c.ifacesOut == fn.resultTypes.toList.any (P.ifacesRec ·)) : Bool)) Tryz.prog 3 Tryz.f3 ((Rows.OpenSpec.upto Rows.pathBuildsSpec).bare) (Rows.pathBuildsUptoRow) = true := by kernel_rfl
theorem zMC : (fun (P : Program) (f : FuncId) (fn : Func) (s : ChangeSpec) (c : OpenClaim) => ((c.loopsOut == fn.resultTypes.toList.any (P.loopsFrom ·)) : Bool)) Tryz.prog 3 Tryz.f3 ((Rows.OpenSpec.upto Rows.pathBuildsSpec).bare) (Rows.pathBuildsUptoRow) = true := by kernel_rfl
theorem zMD : (fun (P : Program) (f : FuncId) (fn : Func) (s : ChangeSpec) (c : OpenClaim) => (c.shortTexts.isNone : Bool)) Tryz.prog 3 Tryz.f3 ((Rows.OpenSpec.upto Rows.pathBuildsSpec).bare) (Rows.pathBuildsUptoRow) = true := by kernel_rfl
theorem zME : (fun (P : Program) (f : FuncId) (fn : Func) (s : ChangeSpec) (c : OpenClaim) => ((c.kinds == (if c.domain.isEmpty then [] else fn.params.toList.map fun t => match P.underlying t with | some (.int k) => some k | _ => none)) : Bool)) Tryz.prog 3 Tryz.f3 ((Rows.OpenSpec.upto Rows.pathBuildsSpec).bare) (Rows.pathBuildsUptoRow) = true := by kernel_rfl
theorem zMF : (fun (P : Program) (f : FuncId) (fn : Func) (s : ChangeSpec) (c : OpenClaim) => ((c.pinned == c.pinnedBy) : Bool)) Tryz.prog 3 Tryz.f3 ((Rows.OpenSpec.upto Rows.pathBuildsSpec).bare) (Rows.pathBuildsUptoRow) = true := by kernel_rfl
theorem zMG : (fun (P : Program) (f : FuncId) (fn : Func) (s : ChangeSpec) (c : OpenClaim) => ((c.veiled == (fn.params.toList ++ s.plain.varTypes P ++ fn.resultTypes.toList).any (P.veiledRec ·)) : Bool)) Tryz.prog 3 Tryz.f3 ((Rows.OpenSpec.upto Rows.pathBuildsSpec).bare) (Rows.pathBuildsUptoRow) = true := by kernel_rfl
theorem zMH : (fun (P : Program) (f : FuncId) (fn : Func) (s : ChangeSpec) (c : OpenClaim) => (c.veiledFits P fn.params.toList (fn.params.toList ++ s.plain.varTypes P ++ fn.resultTypes.toList) : Bool)) Tryz.prog 3 Tryz.f3 ((Rows.OpenSpec.upto Rows.pathBuildsSpec).bare) (Rows.pathBuildsUptoRow) = true := by kernel_rfl
theorem both {a b : Bool} (h1 : a = true) (h2 : b = true) : (a && b) = true := by rw [h1, h2]; rfl
set_option maxRecDepth 100000 in
theorem closed : joinedFacts Tryz.prog 3 Tryz.f3 (Rows.OpenSpec.upto Rows.pathBuildsSpec).bare Rows.pathBuildsUptoRow = true :=
  both (both (both (both (both (both (both (both (both (both (both (both (both (both (both (both (both (both (both (both (both (both (both (both (both (both (both (both (both (both (both (zQl) Tryz.wholeFact2) Tryz.wholeFact3) zQm) zQn) zQo) Tryz.wholeFact7) zQp) Tryz.wholeFact9) zMq) zMr) zMs) zMt) zMu) zMv) zMw) zMx) zMy) zMz) zMA) zMB) zMC) Tryz.wholeFact23) zMD) Tryz.wholeFact25) Tryz.wholeFact26) Tryz.wholeFact27) Tryz.wholeFact28) zME) zMF) zMG) zMH
theorem over : Rows.pathBuildsUptoRow.holds Tryz.pinned (Rows.OpenSpec.upto Rows.pathBuildsSpec) :=
  OpenClaim.holds_of_cond 3 Tryz.f3 rfl rfl rfl rfl rfl rfl rfl ⟨rfl, rfl, rfl, rfl, rfl⟩ rfl rfl rfl rfl rfl (by kernel_rfl) Tryz.func3 closed
    (of_decide_eq_true (by kernel_rfl)) (by unfold Func.isWrapper; first | (rw [if_pos (by decide +kernel)]; kernel_rfl) | (rw [if_neg (by decide +kernel)]; exact ⟨rfl, rfl⟩))
    (fun os started H enc _ F => lifted os started H enc F)
theorem proved : Rows.PathBuildsUptoSaid :=
  over
end Go.Proofs.YthodcjjgimeeoaaGreat.pathBuilds
