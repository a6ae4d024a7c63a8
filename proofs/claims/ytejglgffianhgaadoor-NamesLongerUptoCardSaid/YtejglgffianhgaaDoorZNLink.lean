/- Shaken copy of a longer text: what one law needs. Its conditions: none. -/
import Derived.Test.YtejglgffianhgaaDoorZNMade
import Derived.Test.YtejglgffianhgaaDoorZAiD
import Derived.Test.YtejglgffianhgaaDoorZAiQ
import Derived.Test.YtejglgffianhgaaDoorZLaid
set_option linter.unusedVariables false
namespace Go.Proofs.YtejglgffianhgaaDoor.N
open Go.AI
theorem linkF (f : FuncId) (a : AFn) (h : fns f = some a) : ∃ fn, Tryd.prog.funcs[f]? = some fn ∧ prepF Tryd.prog sh fn = some a ∧ (fn.name == "runtime.NumGoroutine") = false := by
  unfold fns at h
  split at h
  · cases h; exact ⟨_, Tryd.func3, made3, by decide +kernel⟩
  · cases h; exact ⟨_, Tryd.func4, made4, by decide +kernel⟩
  · cases h; exact ⟨_, Tryd.func5, made5, by decide +kernel⟩
  · cases h; exact ⟨_, Tryd.func6, made6, by decide +kernel⟩
  · cases h; exact ⟨_, Tryd.func7, made7, by decide +kernel⟩
  · cases h; exact ⟨_, Tryd.func8, made8, by decide +kernel⟩
  · cases h; exact ⟨_, Tryd.func9, made9, by decide +kernel⟩
  · cases h; exact ⟨_, Tryd.func13, made13, by decide +kernel⟩
  · cases h; exact ⟨_, Tryd.func14, made14, by decide +kernel⟩
  · cases h; exact ⟨_, Tryd.func15, made15, by decide +kernel⟩
  · cases h; exact ⟨_, Tryd.func16, made16, by decide +kernel⟩
  · cases h; exact ⟨_, Tryd.func17, made17, by decide +kernel⟩
  · cases h; exact ⟨_, Tryd.func18, made18, by decide +kernel⟩
  · cases h; exact ⟨_, Tryd.func19, made19, by decide +kernel⟩
  · cases h; exact ⟨_, Tryd.func20, made20, by decide +kernel⟩
  · cases h; exact ⟨_, Tryd.func21, made21, by decide +kernel⟩
  · cases h; exact ⟨_, Tryd.func22, made22, by decide +kernel⟩
  · cases h; exact ⟨_, Tryd.func23, made23, by decide +kernel⟩
  · cases h; exact ⟨_, Tryd.func24, made24, by decide +kernel⟩
  · cases h; exact ⟨_, Tryd.func25, made25, by decide +kernel⟩
  · cases h; exact ⟨_, Tryd.func26, made26, by decide +kernel⟩
  · cases h; exact ⟨_, Tryd.func27, made27, by decide +kernel⟩
  · cases h; exact ⟨_, Tryd.func28, made28, by decide +kernel⟩
  · cases h; exact ⟨_, Tryd.func29, made29, by decide +kernel⟩
  · cases h; exact ⟨_, Tryd.func30, made30, by decide +kernel⟩
  · cases h; exact ⟨_, Tryd.func31, made31, by decide +kernel⟩
  · cases h; exact ⟨_, Tryd.func32, made32, by decide +kernel⟩
  · cases h; exact ⟨_, Tryd.func33, made33, by decide +kernel⟩
  · cases h; exact ⟨_, Tryd.func34, made34, by decide +kernel⟩
  · cases h; exact ⟨_, Tryd.func35, made35, by decide +kernel⟩
  · cases h; exact ⟨_, Tryd.func36, made36, by decide +kernel⟩
  · cases h; exact ⟨_, Tryd.func37, made37, by decide +kernel⟩
  · cases h; exact ⟨_, Tryd.func38, made38, by decide +kernel⟩
  · cases h; exact ⟨_, Tryd.func52, made52, by decide +kernel⟩
  · cases h; exact ⟨_, Tryd.func53, made53, by decide +kernel⟩
  · cases h; exact ⟨_, Tryd.func54, made54, by decide +kernel⟩
  · cases h; exact ⟨_, Tryd.func55, made55, by decide +kernel⟩
  · cases h; exact ⟨_, Tryd.func56, made56, by decide +kernel⟩
  · cases h; exact ⟨_, Tryd.func57, made57, by decide +kernel⟩
  · cases h; exact ⟨_, Tryd.func58, made58, by decide +kernel⟩
  · cases h; exact ⟨_, Tryd.func59, made59, by decide +kernel⟩
  · cases h; exact ⟨_, Tryd.func60, made60, by decide +kernel⟩
  · cases h; exact ⟨_, Tryd.func61, made61, by decide +kernel⟩
  · cases h; exact ⟨_, Tryd.func62, made62, by decide +kernel⟩
  · cases h; exact ⟨_, Tryd.func63, made63, by decide +kernel⟩
  · cases h; exact ⟨_, Tryd.func64, made64, by decide +kernel⟩
  · cases h; exact ⟨_, Tryd.func86, made86, by decide +kernel⟩
  · cases h; exact ⟨_, Tryd.func87, made87, by decide +kernel⟩
  · cases h; exact ⟨_, Tryd.func89, made89, by decide +kernel⟩
  · cases h; exact ⟨_, Tryd.func90, made90, by decide +kernel⟩
  · cases h; exact ⟨_, Tryd.func91, made91, by decide +kernel⟩
  · cases h; exact ⟨_, Tryd.func92, made92, by decide +kernel⟩
  · cases h; exact ⟨_, Tryd.func108, made108, by decide +kernel⟩
  · cases h
theorem linkP (f : FuncId) (p : List D → Option D) (h : prim f = some p) : PrimOk Tryd.tabs Tryd.prog f p := by
  unfold prim at h
  split at h
  · cases h; exact primOk_valid Tryd.func88 (by decide +kernel) (by rfl) (fun S s w hs hT => Tryd.validString S s w hs hT)
  · cases h; exact primOk_index Tryd.func110 (by decide +kernel) (by rfl) Tryd.stringslite_Index_one
  · cases h
theorem linked : Linked Tryd.tabs prog Tryd.prog := ⟨fun f a _ h => linkF f a h, fun f p h => linkP f p h⟩
end Go.Proofs.YtejglgffianhgaaDoor.N
