/- Shaken copy of a longer text: what one law needs. Its conditions: none. -/
import Derived.Test.YthodcjjgimeeoaaYPMade
import Derived.Test.YthodcjjgimeeoaaYAiD
set_option linter.unusedVariables false
namespace Go.Proofs.Ythodcjjgimeeoaa.P
open Go.AI
theorem zJW (f:FuncId) (a:AFn) (h:fns f=some a):∃fn,Try.prog.funcs[f]? =some fn∧prepF Try.prog sh fn=some a∧(fn.name== "runtime.NumGoroutine")=false:=by
 unfold fns at h
 split at h
 ·cases h;exact⟨_,Try.func10,zGF,by decide+kernel⟩
 ·cases h;exact⟨_,Try.func11,zGG,by decide+kernel⟩
 ·cases h;exact⟨_,Try.func12,zGH,by decide+kernel⟩
 ·cases h;exact⟨_,Try.func13,zGI,by decide+kernel⟩
 ·cases h;exact⟨_,Try.func14,zGJ,by decide+kernel⟩
 ·cases h;exact⟨_,Try.func35,zGK,by decide+kernel⟩
 ·cases h;exact⟨_,Try.func36,zGL,by decide+kernel⟩
 ·cases h;exact⟨_,Try.func37,zGM,by decide+kernel⟩
 ·cases h;exact⟨_,Try.func38,zGN,by decide+kernel⟩
 ·cases h;exact⟨_,Try.func39,zGO,by decide+kernel⟩
 ·cases h;exact⟨_,Try.func40,zGP,by decide+kernel⟩
 ·cases h;exact⟨_,Try.func41,zGQ,by decide+kernel⟩
 ·cases h;exact⟨_,Try.func42,zGR,by decide+kernel⟩
 ·cases h;exact⟨_,Try.func43,zGS,by decide+kernel⟩
 ·cases h;exact⟨_,Try.func44,zGT,by decide+kernel⟩
 ·cases h;exact⟨_,Try.func45,zGU,by decide+kernel⟩
 ·cases h;exact⟨_,Try.func46,zGV,by decide+kernel⟩
 ·cases h;exact⟨_,Try.func51,zGW,by decide+kernel⟩
 ·cases h;exact⟨_,Try.func80,zGX,by decide+kernel⟩
 ·cases h;exact⟨_,Try.func81,zGY,by decide+kernel⟩
 ·cases h;exact⟨_,Try.func82,zGZ,by decide+kernel⟩
 ·cases h;exact⟨_,Try.func83,zHa,by decide+kernel⟩
 ·cases h;exact⟨_,Try.func84,zHb,by decide+kernel⟩
 ·cases h;exact⟨_,Try.func85,zHc,by decide+kernel⟩
 ·cases h;exact⟨_,Try.func86,zHd,by decide+kernel⟩
 ·cases h;exact⟨_,Try.func87,zHe,by decide+kernel⟩
 ·cases h;exact⟨_,Try.func88,zHf,by decide+kernel⟩
 ·cases h;exact⟨_,Try.func89,zHg,by decide+kernel⟩
 ·cases h;exact⟨_,Try.func90,zHh,by decide+kernel⟩
 ·cases h;exact⟨_,Try.func91,zHi,by decide+kernel⟩
 ·cases h;exact⟨_,Try.func92,zHj,by decide+kernel⟩
 ·cases h;exact⟨_,Try.func93,zHk,by decide+kernel⟩
 ·cases h;exact⟨_,Try.func94,zHl,by decide+kernel⟩
 ·cases h;exact⟨_,Try.func95,zHm,by decide+kernel⟩
 ·cases h;exact⟨_,Try.func96,zHn,by decide+kernel⟩
 ·cases h;exact⟨_,Try.func100,zDF,by decide+kernel⟩
 ·cases h;exact⟨_,Try.func124,zDG,by decide+kernel⟩
 ·cases h;exact⟨_,Try.func125,zDH,by decide+kernel⟩
 ·cases h;exact⟨_,Try.func126,zDI,by decide+kernel⟩
 ·cases h;exact⟨_,Try.func127,zDJ,by decide+kernel⟩
 ·cases h;exact⟨_,Try.func128,zDK,by decide+kernel⟩
 ·cases h;exact⟨_,Try.func129,zDL,by decide+kernel⟩
 ·cases h;exact⟨_,Try.func130,zDM,by decide+kernel⟩
 ·cases h;exact⟨_,Try.func131,zDN,by decide+kernel⟩
 ·cases h;exact⟨_,Try.func132,zDO,by decide+kernel⟩
 ·cases h;exact⟨_,Try.func133,zDP,by decide+kernel⟩
 ·cases h;exact⟨_,Try.func134,zDQ,by decide+kernel⟩
 ·cases h;exact⟨_,Try.func135,zDR,by decide+kernel⟩
 ·cases h;exact⟨_,Try.func136,zDS,by decide+kernel⟩
 ·cases h;exact⟨_,Try.func137,zDT,by decide+kernel⟩
 ·cases h;exact⟨_,Try.func138,zDU,by decide+kernel⟩
 ·cases h;exact⟨_,Try.func139,zDV,by decide+kernel⟩
 ·cases h;exact⟨_,Try.func140,zDW,by decide+kernel⟩
 ·cases h;exact⟨_,Try.func160,zDX,by decide+kernel⟩
 ·cases h;exact⟨_,Try.func161,zDY,by decide+kernel⟩
 ·cases h;exact⟨_,Try.func162,zDZ,by decide+kernel⟩
 ·cases h;exact⟨_,Try.func163,zEa,by decide+kernel⟩
 ·cases h;exact⟨_,Try.func164,zEb,by decide+kernel⟩
 ·cases h;exact⟨_,Try.func165,zEc,by decide+kernel⟩
 ·cases h;exact⟨_,Try.func166,zEd,by decide+kernel⟩
 ·cases h;exact⟨_,Try.func167,zEe,by decide+kernel⟩
 ·cases h;exact⟨_,Try.func168,zEf,by decide+kernel⟩
 ·cases h;exact⟨_,Try.func169,zEg,by decide+kernel⟩
 ·cases h;exact⟨_,Try.func170,zEh,by decide+kernel⟩
 ·cases h;exact⟨_,Try.func171,zEi,by decide+kernel⟩
 ·cases h;exact⟨_,Try.func172,zEj,by decide+kernel⟩
 ·cases h;exact⟨_,Try.func173,zEk,by decide+kernel⟩
 ·cases h;exact⟨_,Try.func174,zEl,by decide+kernel⟩
 ·cases h;exact⟨_,Try.func175,zEm,by decide+kernel⟩
 ·cases h;exact⟨_,Try.func180,zEn,by decide+kernel⟩
 ·cases h;exact⟨_,Try.func182,zEo,by decide+kernel⟩
 ·cases h;exact⟨_,Try.func183,zEp,by decide+kernel⟩
 ·cases h;exact⟨_,Try.func184,zEq,by decide+kernel⟩
 ·cases h;exact⟨_,Try.func185,zEr,by decide+kernel⟩
 ·cases h;exact⟨_,Try.func186,zEs,by decide+kernel⟩
 ·cases h;exact⟨_,Try.func187,zEt,by decide+kernel⟩
 ·cases h;exact⟨_,Try.func188,zEu,by decide+kernel⟩
 ·cases h;exact⟨_,Try.func189,zEv,by decide+kernel⟩
 ·cases h;exact⟨_,Try.func190,zEw,by decide+kernel⟩
 ·cases h;exact⟨_,Try.func191,zEx,by decide+kernel⟩
 ·cases h;exact⟨_,Try.func192,zEy,by decide+kernel⟩
 ·cases h;exact⟨_,Try.func193,zEz,by decide+kernel⟩
 ·cases h;exact⟨_,Try.func194,zEA,by decide+kernel⟩
 ·cases h;exact⟨_,Try.func195,zEB,by decide+kernel⟩
 ·cases h;exact⟨_,Try.func196,zEC,by decide+kernel⟩
 ·cases h;exact⟨_,Try.func197,zED,by decide+kernel⟩
 ·cases h;exact⟨_,Try.func198,zEE,by decide+kernel⟩
 ·cases h;exact⟨_,Try.func199,zEF,by decide+kernel⟩
 ·cases h;exact⟨_,Try.func203,zEG,by decide+kernel⟩
 ·cases h;exact⟨_,Try.func204,zEH,by decide+kernel⟩
 ·cases h;exact⟨_,Try.func205,zEI,by decide+kernel⟩
 ·cases h;exact⟨_,Try.func206,zEJ,by decide+kernel⟩
 ·cases h
theorem linked:Linked [] prog Try.prog:=⟨fun f a _ h=>zJW f a h,fun f p h=>by cases h⟩
end Go.Proofs.Ythodcjjgimeeoaa.P
