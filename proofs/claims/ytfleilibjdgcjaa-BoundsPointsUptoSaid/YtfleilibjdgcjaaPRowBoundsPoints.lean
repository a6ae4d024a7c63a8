/- Shaken copy of a longer text: what one law needs. Its conditions: none. -/
import Derived.Test.YtfleilibjdgcjaaRows
import Derived.Test.YtfleilibjdgcjaaPBSpBq
import Derived.Test.YtfleilibjdgcjaaPBLink
import Derived.WalkKit
import Derived.ProofKit
import Derived.OpenShut
import Derived.JoinedCond
import Derived.Test.YtfleilibjdgcjaaPFacts
namespace Go.Proofs.Ytfleilibjdgcjaa.boundsPoints
open Go.ChangeShapes Go.WideShapes Go.ChangeAt Go.RowKit
set_option linter.unusedVariables false
set_option linter.unusedSimpArgs false
theorem own : ownKnob Try.prog.godebug = none := by kernel_rfl
open Go.AI B in
theorem zOl (xs : List D) (h : HasAll [tyForest, tyBound, tyBound] xs) (hb : D.bulkAll xs ≤ 1048576) : pc B.prog 11 xs = some (.bool true) := by
  obtain ⟨x0, r0, rfl, g0, s0⟩ := zgy h
  obtain ⟨x1, r1, rfl, g1, s1⟩ := zgy s0
  obtain ⟨x2, r2, rfl, g2, s2⟩ := zgy s1
  obtain rfl := ztv s2
  obtain ⟨y0, rfl, o0⟩ := Forest.of g0
  obtain ⟨y1, rfl, o1⟩ := Bound.of g1
  obtain ⟨y2, rfl, o2⟩ := Bound.of g2
  exact zkE y0 y1 y2 o0 o1 o2 hb
theorem zOm (H : Type) : ∃ B : Go.AI.Bulk H, ∀ l, B.all l = Rows.uptoBulkAll l :=
  ⟨⟨Rows.uptoBulk, Rows.uptoBulkAll, by simp only [Rows.uptoBulkAll], fun d r => by simp only [Rows.uptoBulkAll], fun d => by
    cases d with
    | lit l => cases l <;> simp [Rows.uptoBulk]
    | _ => simp [Rows.uptoBulk], fun s => by simp only [Rows.uptoBulk], fun a b => by simp only [Rows.uptoBulk], fun a => by simp only [Rows.uptoBulk]⟩, fun _ => rfl⟩
set_option maxRecDepth 100000 in
theorem zDc (H : Type) (enc : TypeId × Value → H) (W : World) (base : Nat) (args : Array Value) (ds gs : List (DataW H)) (before : List MemPlace)
    (hval : ∀ (j : Nat) t v, Try.f11.params[j]? = some t → args[j]? = some v → Value.okWide Try.prog W .any base t v)
    (hW : DataW.Whole enc Try.prog Try.f11.params.toList Rows.boundsPointsSpec.vars false W args.toList ds gs before) (hk : Rows.uptoSmall H (ds ++ gs) = true) :
    Calls Try.prog 11 args W fun e W' => ∃ v, e = .returned v ∧ Rows.boundsPointsSpec.post enc Try.prog Try.f11 false true false false W args v W' := by
  obtain ⟨Bk, hB⟩ := zOm H
  have hk' : Bk.all (ds ++ gs) ≤ 1048576 := by
    rw [hB]
    exact of_decide_eq_true (p := Rows.uptoBulkAll (ds ++ gs) ≤ 1048576) hk
  exact Go.AI.law_contract B.linked Bk enc Try.func11 (Ts := [B.tyForest, B.tyBound, B.tyBound]) (by kernel_rfl) (tb := 4) (by kernel_rfl) (by kernel_rfl) (by kernel_rfl) (by kernel_rfl) rfl (fun ds hd => by
    match ds, hd with
    | [_, _, _], _ => rfl) zOl W (fun x hx => by cases hx) base args ds gs before hval hW hk'
set_option maxRecDepth 100000 in
theorem lifted (os : Os) (started : os.Started) (H : Type) (enc : TypeId × Value → H) (F : Stop.Interp) :
    ReturnsInHanded {} Try.checked os 11 .any ((Rows.OpenSpec.upto Rows.boundsPointsSpec).pre6 enc Try.prog Try.f11 Rows.boundsPointsUptoRow.domain false) (((Rows.OpenSpec.upto Rows.boundsPointsSpec).at F).post enc Try.prog Try.f11 false true false false) := by
  refine returnsInHanded_of_cond (C := Try.checked) (s := Rows.OpenSpec.upto Rows.boundsPointsSpec) (k := Rows.uptoSmall) rfl own started (by kernel_rfl) Try.func11
    (OpenSpec.witness (enc := enc) (C := Try.checked) (s := Rows.OpenSpec.upto Rows.boundsPointsSpec) (k := Rows.uptoSmall) rfl false ⟨#[], #[.agg #[.slice none 0 0], .agg #[.int .i64 0, .int .i64 0], .agg #[.int .i64 0, .int .i64 0]], []⟩ 8 (by kernel_rfl) (by kernel_rfl) (by kernel_rfl)
      (x := ([.agg [.nil], .agg [.lit (.int .i64 0), .lit (.int .i64 0)], .agg [.lit (.int .i64 0), .lit (.int .i64 0)]], [], [])) (by kernel_rfl) rfl (by kernel_rfl)) ?_
  intro W base args ds gs before hval hW _ hk _
  exact zDc H enc W base args ds gs before hval hW hk
theorem zOn : (fun (P : Program) (f : FuncId) (fn : Func) (s : ChangeSpec) (c : OpenClaim) => (c.wf (OpenSpec.ofChange s) : Bool)) Try.prog 11 Try.f11 ((Rows.OpenSpec.upto Rows.boundsPointsSpec).bare) (Rows.boundsPointsUptoRow) = true := by kernel_rfl
theorem zOo : (fun (P : Program) (f : FuncId) (fn : Func) (s : ChangeSpec) (c : OpenClaim) => (fn.params.all (P.readableRec ·) : Bool)) Try.prog 11 Try.f11 ((Rows.OpenSpec.upto Rows.boundsPointsSpec).bare) (Rows.boundsPointsUptoRow) = true := by kernel_rfl
theorem zOp : (fun (P : Program) (f : FuncId) (fn : Func) (s : ChangeSpec) (c : OpenClaim) => (namedTie P c.named s.vars : Bool)) Try.prog 11 Try.f11 ((Rows.OpenSpec.upto Rows.boundsPointsSpec).bare) (Rows.boundsPointsUptoRow) = true := by kernel_rfl
theorem zOq : (fun (P : Program) (f : FuncId) (fn : Func) (s : ChangeSpec) (c : OpenClaim) => ((c.stops == []) : Bool)) Try.prog 11 Try.f11 ((Rows.OpenSpec.upto Rows.boundsPointsSpec).bare) (Rows.boundsPointsUptoRow) = true := by kernel_rfl
theorem zOr : (fun (P : Program) (f : FuncId) (fn : Func) (s : ChangeSpec) (c : OpenClaim) => ((c.knobs == []) : Bool)) Try.prog 11 Try.f11 ((Rows.OpenSpec.upto Rows.boundsPointsSpec).bare) (Rows.boundsPointsUptoRow) = true := by kernel_rfl
theorem zKo : (fun (P : Program) (f : FuncId) (fn : Func) (s : ChangeSpec) (c : OpenClaim) => ((c.inPlace == P.inPlace f) : Bool)) Try.prog 11 Try.f11 ((Rows.OpenSpec.upto Rows.boundsPointsSpec).bare) (Rows.boundsPointsUptoRow) = true := by kernel_rfl
theorem zKp : (fun (P : Program) (f : FuncId) (fn : Func) (s : ChangeSpec) (c : OpenClaim) => ((c.unfollowed == P.unfollowed f) : Bool)) Try.prog 11 Try.f11 ((Rows.OpenSpec.upto Rows.boundsPointsSpec).bare) (Rows.boundsPointsUptoRow) = true := by kernel_rfl
theorem zKq : (fun (P : Program) (f : FuncId) (fn : Func) (s : ChangeSpec) (c : OpenClaim) => ((c.recurses == P.recurses f) : Bool)) Try.prog 11 Try.f11 ((Rows.OpenSpec.upto Rows.boundsPointsSpec).bare) (Rows.boundsPointsUptoRow) = true := by kernel_rfl
theorem zKr : (fun (P : Program) (f : FuncId) (fn : Func) (s : ChangeSpec) (c : OpenClaim) => ((c.named == P.varsNamed f) : Bool)) Try.prog 11 Try.f11 ((Rows.OpenSpec.upto Rows.boundsPointsSpec).bare) (Rows.boundsPointsUptoRow) = true := by kernel_rfl
theorem zKs : (fun (P : Program) (f : FuncId) (fn : Func) (s : ChangeSpec) (c : OpenClaim) => ((c.maps == (fn.params.toList ++ s.plain.varTypes P).any (P.mapsRec ·)) : Bool)) Try.prog 11 Try.f11 ((Rows.OpenSpec.upto Rows.boundsPointsSpec).bare) (Rows.boundsPointsUptoRow) = true := by kernel_rfl
theorem zKt : (fun (P : Program) (f : FuncId) (fn : Func) (s : ChangeSpec) (c : OpenClaim) => ((c.ifaces == (fn.params.toList ++ s.plain.varTypes P).any (P.ifacesRec ·)) : Bool)) Try.prog 11 Try.f11 ((Rows.OpenSpec.upto Rows.boundsPointsSpec).bare) (Rows.boundsPointsUptoRow) = true := by kernel_rfl
theorem zKu : (fun (P : Program) (f : FuncId) (fn : Func) (s : ChangeSpec) (c : OpenClaim) => ((c.mapsOut == P.mapsAmong fn.resultTypes.toList) : Bool)) Try.prog 11 Try.f11 ((Rows.OpenSpec.upto Rows.boundsPointsSpec).bare) (Rows.boundsPointsUptoRow) = true := by kernel_rfl
theorem zKv : (fun (P : Program) (f : FuncId) (fn : Func) (s : ChangeSpec) (c : OpenClaim) => ((c.loops == (fn.params.toList ++ s.plain.varTypes P).any (P.loopsFrom ·)) : Bool)) Try.prog 11 Try.f11 ((Rows.OpenSpec.upto Rows.boundsPointsSpec).bare) (Rows.boundsPointsUptoRow) = true := by kernel_rfl
theorem zKw : (fun (P : Program) (f : FuncId) (fn : Func) (s : ChangeSpec) (c : OpenClaim) => ((c.wideKeys == (fn.params.toList ++ s.plain.varTypes P ++ fn.resultTypes.toList).any (P.wideKeysFrom ·)) : Bool)) Try.prog 11 Try.f11 ((Rows.OpenSpec.upto Rows.boundsPointsSpec).bare) (Rows.boundsPointsUptoRow) = true := by kernel_rfl
theorem zKx : (fun (P : Program) (f : FuncId) (fn : Func) (s : ChangeSpec) (c : OpenClaim) => (s.vars.all (P.varReadable ·) : Bool)) Try.prog 11 Try.f11 ((Rows.OpenSpec.upto Rows.boundsPointsSpec).bare) (Rows.boundsPointsUptoRow) = true := by kernel_rfl
theorem zKy : (fun (P : Program) (f : FuncId) (fn : Func) (s : ChangeSpec) (c : OpenClaim) => (fn.resultTypes.all (fun t => P.readableRec t && decide (t < P.types.size)) : Bool)) Try.prog 11 Try.f11 ((Rows.OpenSpec.upto Rows.boundsPointsSpec).bare) (Rows.boundsPointsUptoRow) = true := by kernel_rfl
theorem zKz : (fun (P : Program) (f : FuncId) (fn : Func) (s : ChangeSpec) (c : OpenClaim) => ((c.ifacesOut == fn.resultTypes.toList.any (P.ifacesRec ·)) : Bool)) Try.prog 11 Try.f11 ((Rows.OpenSpec.upto Rows.boundsPointsSpec).bare) (Rows.boundsPointsUptoRow) = true := by kernel_rfl
theorem zKA : (fun (P : Program) (f : FuncId) (fn : Func) (s : ChangeSpec) (c : OpenClaim) => ((c.loopsOut == fn.resultTypes.toList.any (P.loopsFrom ·)) : Bool)) Try.prog 11 Try.f11 ((Rows.OpenSpec.upto Rows.boundsPointsSpec).bare) (Rows.boundsPointsUptoRow) = true := by kernel_rfl
theorem zKB : (fun (P : Program) (f : FuncId) (fn : Func) (s : ChangeSpec) (c : OpenClaim) => (c.shortTexts.isNone : Bool)) Try.prog 11 Try.f11 ((Rows.OpenSpec.upto Rows.boundsPointsSpec).bare) (Rows.boundsPointsUptoRow) = true := by kernel_rfl
theorem zKC : (fun (P : Program) (f : FuncId) (fn : Func) (s : ChangeSpec) (c : OpenClaim) => ((c.kinds == (if c.domain.isEmpty then [] else fn.params.toList.map fun t => match P.underlying t with | some (.int k) => some k | _ => none)) : Bool)) Try.prog 11 Try.f11 ((Rows.OpenSpec.upto Rows.boundsPointsSpec).bare) (Rows.boundsPointsUptoRow) = true := by kernel_rfl
theorem zKD : (fun (P : Program) (f : FuncId) (fn : Func) (s : ChangeSpec) (c : OpenClaim) => ((c.pinned == c.pinnedBy) : Bool)) Try.prog 11 Try.f11 ((Rows.OpenSpec.upto Rows.boundsPointsSpec).bare) (Rows.boundsPointsUptoRow) = true := by kernel_rfl
theorem zKE : (fun (P : Program) (f : FuncId) (fn : Func) (s : ChangeSpec) (c : OpenClaim) => ((c.veiled == (fn.params.toList ++ s.plain.varTypes P ++ fn.resultTypes.toList).any (P.veiledRec ·)) : Bool)) Try.prog 11 Try.f11 ((Rows.OpenSpec.upto Rows.boundsPointsSpec).bare) (Rows.boundsPointsUptoRow) = true := by kernel_rfl
theorem zKF : (fun (P : Program) (f : FuncId) (fn : Func) (s : ChangeSpec) (c : OpenClaim) => (c.veiledFits P fn.params.toList (fn.params.toList ++ s.plain.varTypes P ++ fn.resultTypes.toList) : Bool)) Try.prog 11 Try.f11 ((Rows.OpenSpec.upto Rows.boundsPointsSpec).bare) (Rows.boundsPointsUptoRow) = true := by kernel_rfl
theorem both {a b : Bool} (h1 : a = true) (h2 : b = true) : (a && b) = true := by rw [h1, h2]; rfl
set_option maxRecDepth 100000 in
theorem closed : joinedFacts Try.prog 11 Try.f11 (Rows.OpenSpec.upto Rows.boundsPointsSpec).bare Rows.boundsPointsUptoRow = true :=
  both (both (both (both (both (both (both (both (both (both (both (both (both (both (both (both (both (both (both (both (both (both (both (both (both (both (both (both (both (both (both (zOn) Try.wholeFact2) Try.wholeFact3) zOo) zOp) zOq) Try.wholeFact7) zOr) Try.wholeFact9) zKo) zKp) zKq) zKr) zKs) zKt) zKu) zKv) zKw) zKx) zKy) zKz) zKA) Try.wholeFact23) zKB) Try.wholeFact25) Try.wholeFact26) Try.wholeFact27) Try.wholeFact28) zKC) zKD) zKE) zKF
theorem over : Rows.boundsPointsUptoRow.holds Try.pinned (Rows.OpenSpec.upto Rows.boundsPointsSpec) :=
  OpenClaim.holds_of_cond 11 Try.f11 rfl rfl rfl rfl rfl rfl rfl ⟨rfl, rfl, rfl, rfl, rfl⟩ rfl rfl rfl rfl rfl (by kernel_rfl) Try.func11 closed
    (of_decide_eq_true (by kernel_rfl)) (by unfold Func.isWrapper; first | (rw [if_pos (by decide +kernel)]; kernel_rfl) | (rw [if_neg (by decide +kernel)]; exact ⟨rfl, rfl⟩))
    (fun os started H enc _ F => lifted os started H enc F)
theorem proved : Rows.BoundsPointsUptoSaid :=
  over
end Go.Proofs.Ytfleilibjdgcjaa.boundsPoints
