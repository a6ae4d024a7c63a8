/- DispatchBegins, the second form: for every input of bulk at most 1048576 the law answers true, and its arguments read as they did. Its conditions: none beyond the statement's own. -/
import Derived.Test.YtnijbejobbajfaaRows
import Derived.Test.YtnijbejobbajfaaSpDisp3
import Derived.Test.YtnijbejobbajfaaLLink
import Derived.WalkKit
import Derived.ProofKit
import Derived.OpenShut
import Derived.JoinedCond
namespace Go.Proofs.Ytnijbejobbajfaa.dispatchBegins
open Go.ChangeShapes Go.WideShapes Go.ChangeAt Go.RowKit
set_option linter.unusedVariables false
set_option linter.unusedSimpArgs false
theorem own : ownKnob Try.prog.godebug = none := by kernel_rfl
open Go.AI L in
theorem hlaw (xs : List D) (h : HasAll [.list (tyStep), tyEvent, .bool, tyRun] xs) (hb : D.bulkAll xs ≤ 1048576) : pc L.prog 8 xs = some (.bool true) := by
  obtain ⟨x0, r0, rfl, g0, s0⟩ := hasAll_cons h
  obtain ⟨x1, r1, rfl, g1, s1⟩ := hasAll_cons s0
  obtain ⟨x2, r2, rfl, g2, s2⟩ := hasAll_cons s1
  obtain ⟨x3, r3, rfl, g3, s3⟩ := hasAll_cons s2
  obtain rfl := hasAll_nil s3
  obtain ⟨y0, rfl, o0⟩ := (HasTy.sl_inv (fun _ h => Step.of h)) g0
  obtain ⟨y1, rfl, o1⟩ := Event.of g1
  obtain ⟨y2, rfl, o2⟩ := HasTy.bool_inv g2
  obtain ⟨y3, rfl, o3⟩ := Run.of g3
  exact lawDispatchBegins y0 y1 y2 y3 o0 o1 o2 o3 hb
theorem bulks (H : Type) : ∃ B : Go.AI.Bulk H, ∀ l, B.all l = Rows.uptoBulkAll l :=
  ⟨⟨Rows.uptoBulk, Rows.uptoBulkAll, by simp only [Rows.uptoBulkAll], fun d r => by simp only [Rows.uptoBulkAll], fun d => by
    cases d with
    | lit l => cases l <;> simp [Rows.uptoBulk]
    | _ => simp [Rows.uptoBulk], fun s => by simp only [Rows.uptoBulk], fun a b => by simp only [Rows.uptoBulk], fun a => by simp only [Rows.uptoBulk]⟩, fun _ => rfl⟩
set_option maxRecDepth 100000 in
theorem contract (H : Type) (enc : TypeId × Value → H) (W : World) (base : Nat) (args : Array Value) (ds gs : List (DataW H)) (before : List MemPlace)
    (hval : ∀ (j : Nat) t v, Try.f8.params[j]? = some t → args[j]? = some v → Value.okWide Try.prog W .any base t v)
    (hW : DataW.Whole enc Try.prog Try.f8.params.toList Rows.dispatchBeginsSpec.vars false W args.toList ds gs before) (hk : Rows.uptoSmall H (ds ++ gs) = true) :
    Calls Try.prog 8 args W fun e W' => ∃ v, e = .returned v ∧ Rows.dispatchBeginsSpec.post enc Try.prog Try.f8 false true false false W args v W' := by
  obtain ⟨B, hB⟩ := bulks H
  have hk' : B.all (ds ++ gs) ≤ 1048576 := by
    rw [hB]
    exact of_decide_eq_true (p := Rows.uptoBulkAll (ds ++ gs) ≤ 1048576) hk
  exact Go.AI.law_contract L.linked B enc Try.func8 (Ts := [.list (L.tyStep), L.tyEvent, .bool, L.tyRun]) (by kernel_rfl) (tb := 4) (by kernel_rfl) (by kernel_rfl) (by kernel_rfl) (by kernel_rfl) rfl (fun ds hd => by
    match ds, hd with
    | [_, _, _, _], _ => rfl) hlaw W base args ds gs before hval hW hk'
set_option maxRecDepth 100000 in
theorem lifted (os : Os) (started : os.Started) (H : Type) (enc : TypeId × Value → H) (F : Stop.Interp) :
    ReturnsInHanded {} Try.checked os 8 .any ((Rows.OpenSpec.upto Rows.dispatchBeginsSpec).pre6 enc Try.prog Try.f8 Rows.dispatchBeginsUptoRow.domain false) (((Rows.OpenSpec.upto Rows.dispatchBeginsSpec).at F).post enc Try.prog Try.f8 false true false false) := by
  refine returnsInHanded_of_cond (C := Try.checked) (s := Rows.OpenSpec.upto Rows.dispatchBeginsSpec) (k := Rows.uptoSmall) rfl own started (by kernel_rfl) Try.func8
    (OpenSpec.witness (enc := enc) (C := Try.checked) (s := Rows.OpenSpec.upto Rows.dispatchBeginsSpec) (k := Rows.uptoSmall) rfl false ⟨#[], #[.slice none 0 0, .agg #[.string ⟨#[]⟩, .bool false, .bool false, .bool false, .bool false, .bool false, .bool false, .bool false, .bool false, .int .u8 0, .int .i64 0, .int .i64 0, .int .i64 0], .bool false, .agg #[.string ⟨#[]⟩, .bool false, .bool false, .bool false, .bool false, .bool false, .bool false, .bool false, .bool false, .int .u8 0, .int .i64 0, .int .i64 0, .int .i64 0, .slice none 0 0, .int .i64 0, .slice none 0 0, .bool false]], []⟩ 8 (by kernel_rfl) (by kernel_rfl) (by kernel_rfl)
      (x := ([.nil, .agg [.lit (.string []), .lit (.bool false), .lit (.bool false), .lit (.bool false), .lit (.bool false), .lit (.bool false), .lit (.bool false), .lit (.bool false), .lit (.bool false), .lit (.int .u8 0), .lit (.int .i64 0), .lit (.int .i64 0), .lit (.int .i64 0)], .lit (.bool false), .agg [.agg [.lit (.string []), .lit (.bool false), .lit (.bool false), .lit (.bool false), .lit (.bool false), .lit (.bool false), .lit (.bool false), .lit (.bool false), .lit (.bool false), .lit (.int .u8 0), .lit (.int .i64 0), .lit (.int .i64 0), .lit (.int .i64 0)], .nil, .lit (.int .i64 0), .nil, .lit (.bool false)]], [], [])) (by kernel_rfl) rfl (by kernel_rfl)) ?_
  intro W base args ds gs before hval hW _ hk _
  exact contract H enc W base args ds gs before hval hW hk
theorem over : Rows.dispatchBeginsUptoRow.holds Try.pinned (Rows.OpenSpec.upto Rows.dispatchBeginsSpec) :=
  OpenClaim.holds_of_cond 8 Try.f8 rfl rfl rfl rfl rfl rfl rfl ⟨rfl, rfl, rfl, rfl, rfl⟩ rfl rfl rfl rfl rfl (by kernel_rfl) Try.func8 (by kernel_rfl)
    (of_decide_eq_true (by kernel_rfl)) (by unfold Func.isWrapper; first | (rw [if_pos (by decide +kernel)]; kernel_rfl) | (rw [if_neg (by decide +kernel)]; exact ⟨rfl, rfl⟩))
    (fun os started H enc _ F => lifted os started H enc F)
theorem proved : Rows.DispatchBeginsUptoSaid :=
  over
end Go.Proofs.Ytnijbejobbajfaa.dispatchBegins
