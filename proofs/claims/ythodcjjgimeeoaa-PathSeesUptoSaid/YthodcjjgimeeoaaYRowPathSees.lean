/- Shaken copy of a longer text: what one law needs. Its conditions: none. -/
import Derived.Test.YthodcjjgimeeoaaRows
import Derived.Test.YthodcjjgimeeoaaYPSpPc
import Derived.Test.YthodcjjgimeeoaaYPLink
import Derived.WalkKit
import Derived.ProofKit
import Derived.OpenShut
import Derived.JoinedCond
import Derived.Test.YthodcjjgimeeoaaYFacts
namespace Go.Proofs.Ythodcjjgimeeoaa.pathSees
open Go.ChangeShapes Go.WideShapes Go.ChangeAt Go.RowKit
set_option linter.unusedVariables false
set_option linter.unusedSimpArgs false
theorem own : ownKnob Try.prog.godebug = none := by kernel_rfl
open Go.AI P in
theorem hlaw (xs : List D) (h : HasAll [tyForest, .list (tyStep), .int .i64] xs) (hb : D.bulkAll xs ≤ 1048576) : pc P.prog 10 xs = some (.bool true) := by
  obtain ⟨x0, r0, rfl, g0, s0⟩ := zdp h
  obtain ⟨x1, r1, rfl, g1, s1⟩ := zdp s0
  obtain ⟨x2, r2, rfl, g2, s2⟩ := zdp s1
  obtain rfl := zka s2
  obtain ⟨y0, rfl, o0⟩ := Forest.of g0
  obtain ⟨y1, rfl, o1⟩ := (HasTy.sl_inv (fun _ h => Step.of h)) g1
  obtain ⟨y2, rfl, o2⟩ := HasTy.int_inv g2
  exact zph y0 y1 y2 o0 o1 o2 hb
theorem bulks (H : Type) : ∃ B : Go.AI.Bulk H, ∀ l, B.all l = Rows.uptoBulkAll l :=
  ⟨⟨Rows.uptoBulk, Rows.uptoBulkAll, by simp only [Rows.uptoBulkAll], fun d r => by simp only [Rows.uptoBulkAll], fun d => by
    cases d with
    | lit l => cases l <;> simp [Rows.uptoBulk]
    | _ => simp [Rows.uptoBulk], fun s => by simp only [Rows.uptoBulk], fun a b => by simp only [Rows.uptoBulk], fun a => by simp only [Rows.uptoBulk]⟩, fun _ => rfl⟩
set_option maxRecDepth 100000 in
theorem contract (H : Type) (enc : TypeId × Value → H) (W : World) (base : Nat) (args : Array Value) (ds gs : List (DataW H)) (before : List MemPlace)
    (hval : ∀ (j : Nat) t v, Try.f10.params[j]? = some t → args[j]? = some v → Value.okWide Try.prog W .any base t v)
    (hW : DataW.Whole enc Try.prog Try.f10.params.toList Rows.pathSeesSpec.vars false W args.toList ds gs before) (hk : Rows.uptoSmall H (ds ++ gs) = true) :
    Calls Try.prog 10 args W fun e W' => ∃ v, e = .returned v ∧ Rows.pathSeesSpec.post enc Try.prog Try.f10 false true false false W args v W' := by
  obtain ⟨Bk, hB⟩ := bulks H
  have hk' : Bk.all (ds ++ gs) ≤ 1048576 := by
    rw [hB]
    exact of_decide_eq_true (p := Rows.uptoBulkAll (ds ++ gs) ≤ 1048576) hk
  exact Go.AI.law_contract P.linked Bk enc Try.func10 (Ts := [P.tyForest, .list (P.tyStep), .int .i64]) (by kernel_rfl) (tb := 4) (by kernel_rfl) (by kernel_rfl) (by kernel_rfl) (by kernel_rfl) rfl (fun ds hd => by
    match ds, hd with
    | [_, _, _], _ => rfl) hlaw W (fun x hx => by cases hx) base args ds gs before hval hW hk'
set_option maxRecDepth 100000 in
theorem lifted (os : Os) (started : os.Started) (H : Type) (enc : TypeId × Value → H) (F : Stop.Interp) :
    ReturnsInHanded {} Try.checked os 10 .any ((Rows.OpenSpec.upto Rows.pathSeesSpec).pre6 enc Try.prog Try.f10 Rows.pathSeesUptoRow.domain false) (((Rows.OpenSpec.upto Rows.pathSeesSpec).at F).post enc Try.prog Try.f10 false true false false) := by
  refine returnsInHanded_of_cond (C := Try.checked) (s := Rows.OpenSpec.upto Rows.pathSeesSpec) (k := Rows.uptoSmall) rfl own started (by kernel_rfl) Try.func10
    (OpenSpec.witness (enc := enc) (C := Try.checked) (s := Rows.OpenSpec.upto Rows.pathSeesSpec) (k := Rows.uptoSmall) rfl false ⟨#[], #[.agg #[.slice none 0 0], .slice none 0 0, .int .i64 0], []⟩ 8 (by kernel_rfl) (by kernel_rfl) (by kernel_rfl)
      (x := ([.agg [.nil], .nil, .lit (.int .i64 0)], [], [])) (by kernel_rfl) rfl (by kernel_rfl)) ?_
  intro W base args ds gs before hval hW _ hk _
  exact contract H enc W base args ds gs before hval hW hk
theorem fact1 : (fun (P : Program) (f : FuncId) (fn : Func) (s : ChangeSpec) (c : OpenClaim) => (c.wf (OpenSpec.ofChange s) : Bool)) Try.prog 10 Try.f10 ((Rows.OpenSpec.upto Rows.pathSeesSpec).bare) (Rows.pathSeesUptoRow) = true := by kernel_rfl
theorem fact4 : (fun (P : Program) (f : FuncId) (fn : Func) (s : ChangeSpec) (c : OpenClaim) => (fn.params.all (P.readableRec ·) : Bool)) Try.prog 10 Try.f10 ((Rows.OpenSpec.upto Rows.pathSeesSpec).bare) (Rows.pathSeesUptoRow) = true := by kernel_rfl
theorem fact5 : (fun (P : Program) (f : FuncId) (fn : Func) (s : ChangeSpec) (c : OpenClaim) => (namedTie P c.named s.vars : Bool)) Try.prog 10 Try.f10 ((Rows.OpenSpec.upto Rows.pathSeesSpec).bare) (Rows.pathSeesUptoRow) = true := by kernel_rfl
theorem fact6 : (fun (P : Program) (f : FuncId) (fn : Func) (s : ChangeSpec) (c : OpenClaim) => ((c.stops == []) : Bool)) Try.prog 10 Try.f10 ((Rows.OpenSpec.upto Rows.pathSeesSpec).bare) (Rows.pathSeesUptoRow) = true := by kernel_rfl
theorem fact8 : (fun (P : Program) (f : FuncId) (fn : Func) (s : ChangeSpec) (c : OpenClaim) => ((c.knobs == []) : Bool)) Try.prog 10 Try.f10 ((Rows.OpenSpec.upto Rows.pathSeesSpec).bare) (Rows.pathSeesUptoRow) = true := by kernel_rfl
theorem fact10 : (fun (P : Program) (f : FuncId) (fn : Func) (s : ChangeSpec) (c : OpenClaim) => ((c.inPlace == P.inPlace f) : Bool)) Try.prog 10 Try.f10 ((Rows.OpenSpec.upto Rows.pathSeesSpec).bare) (Rows.pathSeesUptoRow) = true := by kernel_rfl
theorem fact11 : (fun (P : Program) (f : FuncId) (fn : Func) (s : ChangeSpec) (c : OpenClaim) => ((c.unfollowed == P.unfollowed f) : Bool)) Try.prog 10 Try.f10 ((Rows.OpenSpec.upto Rows.pathSeesSpec).bare) (Rows.pathSeesUptoRow) = true := by kernel_rfl
theorem fact12 : (fun (P : Program) (f : FuncId) (fn : Func) (s : ChangeSpec) (c : OpenClaim) => ((c.recurses == P.recurses f) : Bool)) Try.prog 10 Try.f10 ((Rows.OpenSpec.upto Rows.pathSeesSpec).bare) (Rows.pathSeesUptoRow) = true := by kernel_rfl
theorem fact13 : (fun (P : Program) (f : FuncId) (fn : Func) (s : ChangeSpec) (c : OpenClaim) => ((c.named == P.varsNamed f) : Bool)) Try.prog 10 Try.f10 ((Rows.OpenSpec.upto Rows.pathSeesSpec).bare) (Rows.pathSeesUptoRow) = true := by kernel_rfl
theorem fact14 : (fun (P : Program) (f : FuncId) (fn : Func) (s : ChangeSpec) (c : OpenClaim) => ((c.maps == (fn.params.toList ++ s.plain.varTypes P).any (P.mapsRec ·)) : Bool)) Try.prog 10 Try.f10 ((Rows.OpenSpec.upto Rows.pathSeesSpec).bare) (Rows.pathSeesUptoRow) = true := by kernel_rfl
theorem fact15 : (fun (P : Program) (f : FuncId) (fn : Func) (s : ChangeSpec) (c : OpenClaim) => ((c.ifaces == (fn.params.toList ++ s.plain.varTypes P).any (P.ifacesRec ·)) : Bool)) Try.prog 10 Try.f10 ((Rows.OpenSpec.upto Rows.pathSeesSpec).bare) (Rows.pathSeesUptoRow) = true := by kernel_rfl
theorem fact16 : (fun (P : Program) (f : FuncId) (fn : Func) (s : ChangeSpec) (c : OpenClaim) => ((c.mapsOut == P.mapsAmong fn.resultTypes.toList) : Bool)) Try.prog 10 Try.f10 ((Rows.OpenSpec.upto Rows.pathSeesSpec).bare) (Rows.pathSeesUptoRow) = true := by kernel_rfl
theorem fact17 : (fun (P : Program) (f : FuncId) (fn : Func) (s : ChangeSpec) (c : OpenClaim) => ((c.loops == (fn.params.toList ++ s.plain.varTypes P).any (P.loopsFrom ·)) : Bool)) Try.prog 10 Try.f10 ((Rows.OpenSpec.upto Rows.pathSeesSpec).bare) (Rows.pathSeesUptoRow) = true := by kernel_rfl
theorem fact18 : (fun (P : Program) (f : FuncId) (fn : Func) (s : ChangeSpec) (c : OpenClaim) => ((c.wideKeys == (fn.params.toList ++ s.plain.varTypes P ++ fn.resultTypes.toList).any (P.wideKeysFrom ·)) : Bool)) Try.prog 10 Try.f10 ((Rows.OpenSpec.upto Rows.pathSeesSpec).bare) (Rows.pathSeesUptoRow) = true := by kernel_rfl
theorem fact19 : (fun (P : Program) (f : FuncId) (fn : Func) (s : ChangeSpec) (c : OpenClaim) => (s.vars.all (P.varReadable ·) : Bool)) Try.prog 10 Try.f10 ((Rows.OpenSpec.upto Rows.pathSeesSpec).bare) (Rows.pathSeesUptoRow) = true := by kernel_rfl
theorem fact20 : (fun (P : Program) (f : FuncId) (fn : Func) (s : ChangeSpec) (c : OpenClaim) => (fn.resultTypes.all (fun t => P.readableRec t && decide (t < P.types.size)) : Bool)) Try.prog 10 Try.f10 ((Rows.OpenSpec.upto Rows.pathSeesSpec).bare) (Rows.pathSeesUptoRow) = true := by kernel_rfl
theorem fact21 : (fun (P : Program) (f : FuncId) (fn : Func) (s : ChangeSpec) (c : OpenClaim) => ((c.ifacesOut == fn.resultTypes.toList.any (P.ifacesRec ·)) : Bool)) Try.prog 10 Try.f10 ((Rows.OpenSpec.upto Rows.pathSeesSpec).bare) (Rows.pathSeesUptoRow) = true := by kernel_rfl
theorem fact22 : (fun (P : Program) (f : FuncId) (fn : Func) (s : ChangeSpec) (c : OpenClaim) => ((c.loopsOut == fn.resultTypes.toList.any (P.loopsFrom ·)) : Bool)) Try.prog 10 Try.f10 ((Rows.OpenSpec.upto Rows.pathSeesSpec).bare) (Rows.pathSeesUptoRow) = true := by kernel_rfl
theorem fact24 : (fun (P : Program) (f : FuncId) (fn : Func) (s : ChangeSpec) (c : OpenClaim) => (c.shortTexts.isNone : Bool)) Try.prog 10 Try.f10 ((Rows.OpenSpec.upto Rows.pathSeesSpec).bare) (Rows.pathSeesUptoRow) = true := by kernel_rfl
theorem fact29 : (fun (P : Program) (f : FuncId) (fn : Func) (s : ChangeSpec) (c : OpenClaim) => ((c.kinds == (if c.domain.isEmpty then [] else fn.params.toList.map fun t => match P.underlying t with | some (.int k) => some k | _ => none)) : Bool)) Try.prog 10 Try.f10 ((Rows.OpenSpec.upto Rows.pathSeesSpec).bare) (Rows.pathSeesUptoRow) = true := by kernel_rfl
theorem fact30 : (fun (P : Program) (f : FuncId) (fn : Func) (s : ChangeSpec) (c : OpenClaim) => ((c.pinned == c.pinnedBy) : Bool)) Try.prog 10 Try.f10 ((Rows.OpenSpec.upto Rows.pathSeesSpec).bare) (Rows.pathSeesUptoRow) = true := by kernel_rfl
theorem fact31 : (fun (P : Program) (f : FuncId) (fn : Func) (s : ChangeSpec) (c : OpenClaim) => ((c.veiled == (fn.params.toList ++ s.plain.varTypes P ++ fn.resultTypes.toList).any (P.veiledRec ·)) : Bool)) Try.prog 10 Try.f10 ((Rows.OpenSpec.upto Rows.pathSeesSpec).bare) (Rows.pathSeesUptoRow) = true := by kernel_rfl
theorem fact32 : (fun (P : Program) (f : FuncId) (fn : Func) (s : ChangeSpec) (c : OpenClaim) => (c.veiledFits P fn.params.toList (fn.params.toList ++ s.plain.varTypes P ++ fn.resultTypes.toList) : Bool)) Try.prog 10 Try.f10 ((Rows.OpenSpec.upto Rows.pathSeesSpec).bare) (Rows.pathSeesUptoRow) = true := by kernel_rfl
theorem both {a b : Bool} (h1 : a = true) (h2 : b = true) : (a && b) = true := by rw [h1, h2]; rfl
set_option maxRecDepth 100000 in
theorem closed : joinedFacts Try.prog 10 Try.f10 (Rows.OpenSpec.upto Rows.pathSeesSpec).bare Rows.pathSeesUptoRow = true :=
  both (both (both (both (both (both (both (both (both (both (both (both (both (both (both (both (both (both (both (both (both (both (both (both (both (both (both (both (both (both (both (fact1) Try.wholeFact2) Try.wholeFact3) fact4) fact5) fact6) Try.wholeFact7) fact8) Try.wholeFact9) fact10) fact11) fact12) fact13) fact14) fact15) fact16) fact17) fact18) fact19) fact20) fact21) fact22) Try.wholeFact23) fact24) Try.wholeFact25) Try.wholeFact26) Try.wholeFact27) Try.wholeFact28) fact29) fact30) fact31) fact32
theorem over : Rows.pathSeesUptoRow.holds Try.pinned (Rows.OpenSpec.upto Rows.pathSeesSpec) :=
  OpenClaim.holds_of_cond 10 Try.f10 rfl rfl rfl rfl rfl rfl rfl ⟨rfl, rfl, rfl, rfl, rfl⟩ rfl rfl rfl rfl rfl (by kernel_rfl) Try.func10 closed
    (of_decide_eq_true (by kernel_rfl)) (by unfold Func.isWrapper; first | (rw [if_pos (by decide +kernel)]; kernel_rfl) | (rw [if_neg (by decide +kernel)]; exact ⟨rfl, rfl⟩))
    (fun os started H enc _ F => lifted os started H enc F)
theorem proved : Rows.PathSeesUptoSaid :=
  over
end Go.Proofs.Ythodcjjgimeeoaa.pathSees
