/- Shaken copy of a longer text: what one law needs. Its conditions: none. -/
import Derived.Test.YtnijbejobbajfaaZDMade
import Derived.Test.YtnijbejobbajfaaZAiD
set_option linter.unusedVariables false
namespace Go.Proofs.Ytnijbejobbajfaa.D
open Go.AI
theorem linkF (f : FuncId) (a : AFn) (h : fns f = some a) : ∃ fn, Try.prog.funcs[f]? = some fn ∧ prepF Try.prog sh fn = some a ∧ (fn.name == "runtime.NumGoroutine") = false := by
  unfold fns at h
  split at h
  · cases h; exact ⟨_, Try.func8, made8, by decide +kernel⟩
  · cases h; exact ⟨_, Try.func9, made9, by decide +kernel⟩
  · cases h; exact ⟨_, Try.func10, made10, by decide +kernel⟩
  · cases h; exact ⟨_, Try.func11, made11, by decide +kernel⟩
  · cases h; exact ⟨_, Try.func12, made12, by decide +kernel⟩
  · cases h; exact ⟨_, Try.func13, made13, by decide +kernel⟩
  · cases h; exact ⟨_, Try.func14, made14, by decide +kernel⟩
  · cases h; exact ⟨_, Try.func15, made15, by decide +kernel⟩
  · cases h; exact ⟨_, Try.func16, made16, by decide +kernel⟩
  · cases h; exact ⟨_, Try.func20, made20, by decide +kernel⟩
  · cases h; exact ⟨_, Try.func21, made21, by decide +kernel⟩
  · cases h; exact ⟨_, Try.func22, made22, by decide +kernel⟩
  · cases h; exact ⟨_, Try.func25, made25, by decide +kernel⟩
  · cases h; exact ⟨_, Try.func26, made26, by decide +kernel⟩
  · cases h; exact ⟨_, Try.func34, made34, by decide +kernel⟩
  · cases h; exact ⟨_, Try.func35, made35, by decide +kernel⟩
  · cases h; exact ⟨_, Try.func36, made36, by decide +kernel⟩
  · cases h; exact ⟨_, Try.func37, made37, by decide +kernel⟩
  · cases h; exact ⟨_, Try.func38, made38, by decide +kernel⟩
  · cases h; exact ⟨_, Try.func39, made39, by decide +kernel⟩
  · cases h; exact ⟨_, Try.func40, made40, by decide +kernel⟩
  · cases h; exact ⟨_, Try.func41, made41, by decide +kernel⟩
  · cases h; exact ⟨_, Try.func42, made42, by decide +kernel⟩
  · cases h; exact ⟨_, Try.func43, made43, by decide +kernel⟩
  · cases h; exact ⟨_, Try.func44, made44, by decide +kernel⟩
  · cases h; exact ⟨_, Try.func45, made45, by decide +kernel⟩
  · cases h; exact ⟨_, Try.func46, made46, by decide +kernel⟩
  · cases h; exact ⟨_, Try.func47, made47, by decide +kernel⟩
  · cases h; exact ⟨_, Try.func48, made48, by decide +kernel⟩
  · cases h; exact ⟨_, Try.func49, made49, by decide +kernel⟩
  · cases h; exact ⟨_, Try.func50, made50, by decide +kernel⟩
  · cases h; exact ⟨_, Try.func51, made51, by decide +kernel⟩
  · cases h; exact ⟨_, Try.func52, made52, by decide +kernel⟩
  · cases h; exact ⟨_, Try.func53, made53, by decide +kernel⟩
  · cases h; exact ⟨_, Try.func54, made54, by decide +kernel⟩
  · cases h; exact ⟨_, Try.func55, made55, by decide +kernel⟩
  · cases h; exact ⟨_, Try.func56, made56, by decide +kernel⟩
  · cases h; exact ⟨_, Try.func57, made57, by decide +kernel⟩
  · cases h; exact ⟨_, Try.func59, made59, by decide +kernel⟩
  · cases h; exact ⟨_, Try.func60, made60, by decide +kernel⟩
  · cases h; exact ⟨_, Try.func63, made63, by decide +kernel⟩
  · cases h; exact ⟨_, Try.func64, made64, by decide +kernel⟩
  · cases h; exact ⟨_, Try.func65, made65, by decide +kernel⟩
  · cases h; exact ⟨_, Try.func66, made66, by decide +kernel⟩
  · cases h; exact ⟨_, Try.func70, made70, by decide +kernel⟩
  · cases h; exact ⟨_, Try.func71, made71, by decide +kernel⟩
  · cases h; exact ⟨_, Try.func72, made72, by decide +kernel⟩
  · cases h; exact ⟨_, Try.func73, made73, by decide +kernel⟩
  · cases h; exact ⟨_, Try.func74, made74, by decide +kernel⟩
  · cases h; exact ⟨_, Try.func75, made75, by decide +kernel⟩
  · cases h; exact ⟨_, Try.func76, made76, by decide +kernel⟩
  · cases h; exact ⟨_, Try.func77, made77, by decide +kernel⟩
  · cases h; exact ⟨_, Try.func78, made78, by decide +kernel⟩
  · cases h; exact ⟨_, Try.func79, made79, by decide +kernel⟩
  · cases h; exact ⟨_, Try.func80, made80, by decide +kernel⟩
  · cases h; exact ⟨_, Try.func81, made81, by decide +kernel⟩
  · cases h; exact ⟨_, Try.func82, made82, by decide +kernel⟩
  · cases h; exact ⟨_, Try.func83, made83, by decide +kernel⟩
  · cases h; exact ⟨_, Try.func84, made84, by decide +kernel⟩
  · cases h; exact ⟨_, Try.func85, made85, by decide +kernel⟩
  · cases h; exact ⟨_, Try.func86, made86, by decide +kernel⟩
  · cases h; exact ⟨_, Try.func87, made87, by decide +kernel⟩
  · cases h; exact ⟨_, Try.func88, made88, by decide +kernel⟩
  · cases h; exact ⟨_, Try.func89, made89, by decide +kernel⟩
  · cases h; exact ⟨_, Try.func90, made90, by decide +kernel⟩
  · cases h; exact ⟨_, Try.func91, made91, by decide +kernel⟩
  · cases h; exact ⟨_, Try.func92, made92, by decide +kernel⟩
  · cases h; exact ⟨_, Try.func93, made93, by decide +kernel⟩
  · cases h; exact ⟨_, Try.func94, made94, by decide +kernel⟩
  · cases h; exact ⟨_, Try.func95, made95, by decide +kernel⟩
  · cases h; exact ⟨_, Try.func96, made96, by decide +kernel⟩
  · cases h; exact ⟨_, Try.func97, made97, by decide +kernel⟩
  · cases h; exact ⟨_, Try.func98, made98, by decide +kernel⟩
  · cases h
theorem linked : Linked prog Try.prog := ⟨fun f a _ h => linkF f a h, fun f p h => by cases h⟩
end Go.Proofs.Ytnijbejobbajfaa.D
