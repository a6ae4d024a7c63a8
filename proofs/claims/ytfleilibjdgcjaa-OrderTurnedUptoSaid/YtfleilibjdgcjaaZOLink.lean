/- Shaken copy of a longer text: what one law needs. Its conditions: none. -/
import Derived.Test.YtfleilibjdgcjaaZOMade
import Derived.Test.YtfleilibjdgcjaaZAiD
set_option linter.unusedVariables false
namespace Go.Proofs.Ytfleilibjdgcjaa.O
open Go.AI
theorem linkF (f : FuncId) (a : AFn) (h : fns f = some a) : ∃ fn, Try.prog.funcs[f]? = some fn ∧ prepF Try.prog sh fn = some a ∧ (fn.name == "runtime.NumGoroutine") = false := by
  unfold fns at h
  split at h
  · cases h; exact ⟨_, Try.func3, made3, by decide +kernel⟩
  · cases h; exact ⟨_, Try.func9, made9, by decide +kernel⟩
  · cases h; exact ⟨_, Try.func12, made12, by decide +kernel⟩
  · cases h; exact ⟨_, Try.func13, made13, by decide +kernel⟩
  · cases h; exact ⟨_, Try.func14, made14, by decide +kernel⟩
  · cases h; exact ⟨_, Try.func15, made15, by decide +kernel⟩
  · cases h; exact ⟨_, Try.func19, made19, by decide +kernel⟩
  · cases h; exact ⟨_, Try.func20, made20, by decide +kernel⟩
  · cases h; exact ⟨_, Try.func28, made28, by decide +kernel⟩
  · cases h; exact ⟨_, Try.func31, made31, by decide +kernel⟩
  · cases h; exact ⟨_, Try.func35, made35, by decide +kernel⟩
  · cases h; exact ⟨_, Try.func36, made36, by decide +kernel⟩
  · cases h; exact ⟨_, Try.func37, made37, by decide +kernel⟩
  · cases h; exact ⟨_, Try.func38, made38, by decide +kernel⟩
  · cases h; exact ⟨_, Try.func39, made39, by decide +kernel⟩
  · cases h; exact ⟨_, Try.func45, made45, by decide +kernel⟩
  · cases h; exact ⟨_, Try.func53, made53, by decide +kernel⟩
  · cases h; exact ⟨_, Try.func54, made54, by decide +kernel⟩
  · cases h; exact ⟨_, Try.func55, made55, by decide +kernel⟩
  · cases h; exact ⟨_, Try.func56, made56, by decide +kernel⟩
  · cases h; exact ⟨_, Try.func57, made57, by decide +kernel⟩
  · cases h; exact ⟨_, Try.func58, made58, by decide +kernel⟩
  · cases h; exact ⟨_, Try.func59, made59, by decide +kernel⟩
  · cases h; exact ⟨_, Try.func60, made60, by decide +kernel⟩
  · cases h; exact ⟨_, Try.func61, made61, by decide +kernel⟩
  · cases h; exact ⟨_, Try.func62, made62, by decide +kernel⟩
  · cases h; exact ⟨_, Try.func63, made63, by decide +kernel⟩
  · cases h; exact ⟨_, Try.func64, made64, by decide +kernel⟩
  · cases h; exact ⟨_, Try.func65, made65, by decide +kernel⟩
  · cases h; exact ⟨_, Try.func66, made66, by decide +kernel⟩
  · cases h; exact ⟨_, Try.func67, made67, by decide +kernel⟩
  · cases h; exact ⟨_, Try.func68, made68, by decide +kernel⟩
  · cases h; exact ⟨_, Try.func69, made69, by decide +kernel⟩
  · cases h; exact ⟨_, Try.func73, made73, by decide +kernel⟩
  · cases h; exact ⟨_, Try.func85, made85, by decide +kernel⟩
  · cases h; exact ⟨_, Try.func86, made86, by decide +kernel⟩
  · cases h; exact ⟨_, Try.func87, made87, by decide +kernel⟩
  · cases h; exact ⟨_, Try.func91, made91, by decide +kernel⟩
  · cases h; exact ⟨_, Try.func93, made93, by decide +kernel⟩
  · cases h; exact ⟨_, Try.func98, made98, by decide +kernel⟩
  · cases h; exact ⟨_, Try.func99, made99, by decide +kernel⟩
  · cases h; exact ⟨_, Try.func100, made100, by decide +kernel⟩
  · cases h; exact ⟨_, Try.func101, made101, by decide +kernel⟩
  · cases h; exact ⟨_, Try.func102, made102, by decide +kernel⟩
  · cases h; exact ⟨_, Try.func103, made103, by decide +kernel⟩
  · cases h; exact ⟨_, Try.func104, made104, by decide +kernel⟩
  · cases h; exact ⟨_, Try.func105, made105, by decide +kernel⟩
  · cases h; exact ⟨_, Try.func106, made106, by decide +kernel⟩
  · cases h; exact ⟨_, Try.func107, made107, by decide +kernel⟩
  · cases h; exact ⟨_, Try.func115, made115, by decide +kernel⟩
  · cases h; exact ⟨_, Try.func122, made122, by decide +kernel⟩
  · cases h; exact ⟨_, Try.func123, made123, by decide +kernel⟩
  · cases h; exact ⟨_, Try.func124, made124, by decide +kernel⟩
  · cases h; exact ⟨_, Try.func125, made125, by decide +kernel⟩
  · cases h; exact ⟨_, Try.func126, made126, by decide +kernel⟩
  · cases h; exact ⟨_, Try.func127, made127, by decide +kernel⟩
  · cases h; exact ⟨_, Try.func128, made128, by decide +kernel⟩
  · cases h; exact ⟨_, Try.func129, made129, by decide +kernel⟩
  · cases h; exact ⟨_, Try.func130, made130, by decide +kernel⟩
  · cases h; exact ⟨_, Try.func131, made131, by decide +kernel⟩
  · cases h; exact ⟨_, Try.func132, made132, by decide +kernel⟩
  · cases h; exact ⟨_, Try.func133, made133, by decide +kernel⟩
  · cases h; exact ⟨_, Try.func134, made134, by decide +kernel⟩
  · cases h; exact ⟨_, Try.func135, made135, by decide +kernel⟩
  · cases h; exact ⟨_, Try.func136, made136, by decide +kernel⟩
  · cases h; exact ⟨_, Try.func137, made137, by decide +kernel⟩
  · cases h; exact ⟨_, Try.func138, made138, by decide +kernel⟩
  · cases h; exact ⟨_, Try.func141, made141, by decide +kernel⟩
  · cases h; exact ⟨_, Try.func146, made146, by decide +kernel⟩
  · cases h; exact ⟨_, Try.func157, made157, by decide +kernel⟩
  · cases h; exact ⟨_, Try.func162, made162, by decide +kernel⟩
  · cases h; exact ⟨_, Try.func163, made163, by decide +kernel⟩
  · cases h; exact ⟨_, Try.func164, made164, by decide +kernel⟩
  · cases h; exact ⟨_, Try.func173, made173, by decide +kernel⟩
  · cases h; exact ⟨_, Try.func174, made174, by decide +kernel⟩
  · cases h; exact ⟨_, Try.func180, made180, by decide +kernel⟩
  · cases h; exact ⟨_, Try.func181, made181, by decide +kernel⟩
  · cases h; exact ⟨_, Try.func182, made182, by decide +kernel⟩
  · cases h; exact ⟨_, Try.func183, made183, by decide +kernel⟩
  · cases h; exact ⟨_, Try.func184, made184, by decide +kernel⟩
  · cases h; exact ⟨_, Try.func185, made185, by decide +kernel⟩
  · cases h; exact ⟨_, Try.func186, made186, by decide +kernel⟩
  · cases h; exact ⟨_, Try.func187, made187, by decide +kernel⟩
  · cases h; exact ⟨_, Try.func188, made188, by decide +kernel⟩
  · cases h; exact ⟨_, Try.func191, made191, by decide +kernel⟩
  · cases h; exact ⟨_, Try.func192, made192, by decide +kernel⟩
  · cases h; exact ⟨_, Try.func193, made193, by decide +kernel⟩
  · cases h; exact ⟨_, Try.func202, made202, by decide +kernel⟩
  · cases h; exact ⟨_, Try.func203, made203, by decide +kernel⟩
  · cases h; exact ⟨_, Try.func204, made204, by decide +kernel⟩
  · cases h; exact ⟨_, Try.func205, made205, by decide +kernel⟩
  · cases h; exact ⟨_, Try.func206, made206, by decide +kernel⟩
  · cases h; exact ⟨_, Try.func207, made207, by decide +kernel⟩
  · cases h; exact ⟨_, Try.func208, made208, by decide +kernel⟩
  · cases h; exact ⟨_, Try.func211, made211, by decide +kernel⟩
  · cases h; exact ⟨_, Try.func212, made212, by decide +kernel⟩
  · cases h; exact ⟨_, Try.func213, made213, by decide +kernel⟩
  · cases h; exact ⟨_, Try.func214, made214, by decide +kernel⟩
  · cases h; exact ⟨_, Try.func215, made215, by decide +kernel⟩
  · cases h; exact ⟨_, Try.func216, made216, by decide +kernel⟩
  · cases h; exact ⟨_, Try.func217, made217, by decide +kernel⟩
  · cases h; exact ⟨_, Try.func218, made218, by decide +kernel⟩
  · cases h; exact ⟨_, Try.func219, made219, by decide +kernel⟩
  · cases h; exact ⟨_, Try.func220, made220, by decide +kernel⟩
  · cases h; exact ⟨_, Try.func221, made221, by decide +kernel⟩
  · cases h; exact ⟨_, Try.func222, made222, by decide +kernel⟩
  · cases h; exact ⟨_, Try.func229, made229, by decide +kernel⟩
  · cases h; exact ⟨_, Try.func230, made230, by decide +kernel⟩
  · cases h; exact ⟨_, Try.func231, made231, by decide +kernel⟩
  · cases h
theorem linked : Linked [] prog Try.prog := ⟨fun f a _ h => linkF f a h, fun f p h => by cases h⟩
end Go.Proofs.Ytfleilibjdgcjaa.O
