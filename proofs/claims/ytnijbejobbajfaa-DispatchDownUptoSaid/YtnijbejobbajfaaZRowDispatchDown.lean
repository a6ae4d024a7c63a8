/- Shaken copy of a longer text: what one law needs. Its conditions: none. -/
import Derived.Test.YtnijbejobbajfaaRows
import Derived.Test.YtnijbejobbajfaaZDSpDown2
import Derived.Test.YtnijbejobbajfaaZDLink
import Derived.WalkKit
import Derived.ProofKit
import Derived.OpenShut
import Derived.JoinedCond
namespace Go.Proofs.Ytnijbejobbajfaa.dispatchDown
open Go.ChangeShapes Go.WideShapes Go.ChangeAt Go.RowKit
set_option linter.unusedVariables false
set_option linter.unusedSimpArgs false
theorem own : ownKnob Try.prog.godebug = none := by kernel_rfl
open Go.AI D in
theorem hlaw (xs : List D) (h : HasAll [tyListeners, .list (tyStep), tyEvent, .bool] xs) (hb : D.bulkAll xs ≤ 1048576) : pc D.prog 12 xs = some (.bool true) := by
  obtain ⟨x0, r0, rfl, g0, s0⟩ := hasAll_cons h
  obtain ⟨x1, r1, rfl, g1, s1⟩ := hasAll_cons s0
  obtain ⟨x2, r2, rfl, g2, s2⟩ := hasAll_cons s1
  obtain ⟨x3, r3, rfl, g3, s3⟩ := hasAll_cons s2
  obtain rfl := hasAll_nil s3
  obtain ⟨y0, rfl, o0⟩ := Listeners.of g0
  obtain ⟨y1, rfl, o1⟩ := (HasTy.sl_inv (fun _ h => Step.of h)) g1
  obtain ⟨y2, rfl, o2⟩ := Event.of g2
  obtain ⟨y3, rfl, o3⟩ := HasTy.bool_inv g3
  exact lawDispatchDown y0 y1 y2 y3 o0 o1 o2 o3 hb
theorem bulks (H : Type) : ∃ B : Go.AI.Bulk H, ∀ l, B.all l = Rows.uptoBulkAll l :=
  ⟨⟨Rows.uptoBulk, Rows.uptoBulkAll, by simp only [Rows.uptoBulkAll], fun d r => by simp only [Rows.uptoBulkAll], fun d => by
    cases d with
    | lit l => cases l <;> simp [Rows.uptoBulk]
    | _ => simp [Rows.uptoBulk], fun s => by simp only [Rows.uptoBulk], fun a b => by simp only [Rows.uptoBulk], fun a => by simp only [Rows.uptoBulk]⟩, fun _ => rfl⟩
set_option maxRecDepth 100000 in
theorem contract (H : Type) (enc : TypeId × Value → H) (W : World) (base : Nat) (args : Array Value) (ds gs : List (DataW H)) (before : List MemPlace)
    (hval : ∀ (j : Nat) t v, Try.f12.params[j]? = some t → args[j]? = some v → Value.okWide Try.prog W .any base t v)
    (hW : DataW.Whole enc Try.prog Try.f12.params.toList Rows.dispatchDownSpec.vars false W args.toList ds gs before) (hk : Rows.uptoSmall H (ds ++ gs) = true) :
    Calls Try.prog 12 args W fun e W' => ∃ v, e = .returned v ∧ Rows.dispatchDownSpec.post enc Try.prog Try.f12 false true false false W args v W' := by
  obtain ⟨B, hB⟩ := bulks H
  have hk' : B.all (ds ++ gs) ≤ 1048576 := by
    rw [hB]
    exact of_decide_eq_true (p := Rows.uptoBulkAll (ds ++ gs) ≤ 1048576) hk
  exact Go.AI.law_contract D.linked B enc Try.func12 (Ts := [D.tyListeners, .list (D.tyStep), D.tyEvent, .bool]) (by kernel_rfl) (tb := 4) (by kernel_rfl) (by kernel_rfl) (by kernel_rfl) (by kernel_rfl) rfl (fun ds hd => by
    match ds, hd with
    | [_, _, _, _], _ => rfl) hlaw W base args ds gs before hval hW hk'
set_option maxRecDepth 100000 in
theorem lifted (os : Os) (started : os.Started) (H : Type) (enc : TypeId × Value → H) (F : Stop.Interp) :
    ReturnsInHanded {} Try.checked os 12 .any ((Rows.OpenSpec.upto Rows.dispatchDownSpec).pre6 enc Try.prog Try.f12 Rows.dispatchDownUptoRow.domain false) (((Rows.OpenSpec.upto Rows.dispatchDownSpec).at F).post enc Try.prog Try.f12 false true false false) := by
  refine returnsInHanded_of_cond (C := Try.checked) (s := Rows.OpenSpec.upto Rows.dispatchDownSpec) (k := Rows.uptoSmall) rfl own started (by kernel_rfl) Try.func12
    (OpenSpec.witness (enc := enc) (C := Try.checked) (s := Rows.OpenSpec.upto Rows.dispatchDownSpec) (k := Rows.uptoSmall) rfl false ⟨#[], #[.agg #[.slice none 0 0, .int .i64 0], .slice none 0 0, .agg #[.string ⟨#[]⟩, .bool false, .bool false, .bool false, .bool false, .bool false, .bool false, .bool false, .bool false, .int .u8 0, .int .i64 0, .int .i64 0, .int .i64 0], .bool false], []⟩ 8 (by kernel_rfl) (by kernel_rfl) (by kernel_rfl)
      (x := ([.agg [.nil, .lit (.int .i64 0)], .nil, .agg [.lit (.string []), .lit (.bool false), .lit (.bool false), .lit (.bool false), .lit (.bool false), .lit (.bool false), .lit (.bool false), .lit (.bool false), .lit (.bool false), .lit (.int .u8 0), .lit (.int .i64 0), .lit (.int .i64 0), .lit (.int .i64 0)], .lit (.bool false)], [], [])) (by kernel_rfl) rfl (by kernel_rfl)) ?_
  intro W base args ds gs before hval hW _ hk _
  exact contract H enc W base args ds gs before hval hW hk
theorem over : Rows.dispatchDownUptoRow.holds Try.pinned (Rows.OpenSpec.upto Rows.dispatchDownSpec) :=
  OpenClaim.holds_of_cond 12 Try.f12 rfl rfl rfl rfl rfl rfl rfl ⟨rfl, rfl, rfl, rfl, rfl⟩ rfl rfl rfl rfl rfl (by kernel_rfl) Try.func12 (by kernel_rfl)
    (of_decide_eq_true (by kernel_rfl)) (by unfold Func.isWrapper; first | (rw [if_pos (by decide +kernel)]; kernel_rfl) | (rw [if_neg (by decide +kernel)]; exact ⟨rfl, rfl⟩))
    (fun os started H enc _ F => lifted os started H enc F)
theorem proved : Rows.DispatchDownUptoSaid :=
  over
end Go.Proofs.Ytnijbejobbajfaa.dispatchDown
