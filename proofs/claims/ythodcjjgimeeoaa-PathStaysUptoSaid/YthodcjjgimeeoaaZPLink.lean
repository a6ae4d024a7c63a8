/- Shaken copy of a longer text: what one law needs. Its conditions: none. -/
import Derived.Test.YthodcjjgimeeoaaZPMade
import Derived.Test.YthodcjjgimeeoaaZAiD
set_option linter.unusedVariables false
namespace Go.Proofs.Ythodcjjgimeeoaa.P
open Go.AI
theorem zLE (f:FuncId) (a:AFn) (h:fns f=some a):∃fn,Try.prog.funcs[f]? =some fn∧prepF Try.prog sh fn=some a∧(fn.name== "runtime.NumGoroutine")=false:=by
 unfold fns at h
 split at h
 ·cases h;exact⟨_,Try.func10,zIn,by decide+kernel⟩
 ·cases h;exact⟨_,Try.func11,zIo,by decide+kernel⟩
 ·cases h;exact⟨_,Try.func12,zIp,by decide+kernel⟩
 ·cases h;exact⟨_,Try.func13,zIq,by decide+kernel⟩
 ·cases h;exact⟨_,Try.func14,zIr,by decide+kernel⟩
 ·cases h;exact⟨_,Try.func35,zIs,by decide+kernel⟩
 ·cases h;exact⟨_,Try.func36,zIt,by decide+kernel⟩
 ·cases h;exact⟨_,Try.func37,zIu,by decide+kernel⟩
 ·cases h;exact⟨_,Try.func38,zIv,by decide+kernel⟩
 ·cases h;exact⟨_,Try.func39,zIw,by decide+kernel⟩
 ·cases h;exact⟨_,Try.func40,zIx,by decide+kernel⟩
 ·cases h;exact⟨_,Try.func41,zIy,by decide+kernel⟩
 ·cases h;exact⟨_,Try.func42,zIz,by decide+kernel⟩
 ·cases h;exact⟨_,Try.func43,zIA,by decide+kernel⟩
 ·cases h;exact⟨_,Try.func44,zIB,by decide+kernel⟩
 ·cases h;exact⟨_,Try.func45,zIC,by decide+kernel⟩
 ·cases h;exact⟨_,Try.func46,zID,by decide+kernel⟩
 ·cases h;exact⟨_,Try.func51,zIE,by decide+kernel⟩
 ·cases h;exact⟨_,Try.func80,zIF,by decide+kernel⟩
 ·cases h;exact⟨_,Try.func81,zIG,by decide+kernel⟩
 ·cases h;exact⟨_,Try.func82,zIH,by decide+kernel⟩
 ·cases h;exact⟨_,Try.func83,zII,by decide+kernel⟩
 ·cases h;exact⟨_,Try.func84,zIJ,by decide+kernel⟩
 ·cases h;exact⟨_,Try.func85,zIK,by decide+kernel⟩
 ·cases h;exact⟨_,Try.func86,zIL,by decide+kernel⟩
 ·cases h;exact⟨_,Try.func87,zIM,by decide+kernel⟩
 ·cases h;exact⟨_,Try.func88,zIN,by decide+kernel⟩
 ·cases h;exact⟨_,Try.func89,zIO,by decide+kernel⟩
 ·cases h;exact⟨_,Try.func90,zIP,by decide+kernel⟩
 ·cases h;exact⟨_,Try.func91,zIQ,by decide+kernel⟩
 ·cases h;exact⟨_,Try.func92,zIR,by decide+kernel⟩
 ·cases h;exact⟨_,Try.func93,zIS,by decide+kernel⟩
 ·cases h;exact⟨_,Try.func94,zIT,by decide+kernel⟩
 ·cases h;exact⟨_,Try.func95,zIU,by decide+kernel⟩
 ·cases h;exact⟨_,Try.func96,zIV,by decide+kernel⟩
 ·cases h;exact⟨_,Try.func100,zFj,by decide+kernel⟩
 ·cases h;exact⟨_,Try.func124,zFk,by decide+kernel⟩
 ·cases h;exact⟨_,Try.func125,zFl,by decide+kernel⟩
 ·cases h;exact⟨_,Try.func126,zFm,by decide+kernel⟩
 ·cases h;exact⟨_,Try.func127,zFn,by decide+kernel⟩
 ·cases h;exact⟨_,Try.func128,zFo,by decide+kernel⟩
 ·cases h;exact⟨_,Try.func129,zFp,by decide+kernel⟩
 ·cases h;exact⟨_,Try.func130,zFq,by decide+kernel⟩
 ·cases h;exact⟨_,Try.func131,zFr,by decide+kernel⟩
 ·cases h;exact⟨_,Try.func132,zFs,by decide+kernel⟩
 ·cases h;exact⟨_,Try.func133,zFt,by decide+kernel⟩
 ·cases h;exact⟨_,Try.func134,zFu,by decide+kernel⟩
 ·cases h;exact⟨_,Try.func135,zFv,by decide+kernel⟩
 ·cases h;exact⟨_,Try.func136,zFw,by decide+kernel⟩
 ·cases h;exact⟨_,Try.func137,zFx,by decide+kernel⟩
 ·cases h;exact⟨_,Try.func138,zFy,by decide+kernel⟩
 ·cases h;exact⟨_,Try.func139,zFz,by decide+kernel⟩
 ·cases h;exact⟨_,Try.func140,zFA,by decide+kernel⟩
 ·cases h;exact⟨_,Try.func160,zFB,by decide+kernel⟩
 ·cases h;exact⟨_,Try.func161,zFC,by decide+kernel⟩
 ·cases h;exact⟨_,Try.func162,zFD,by decide+kernel⟩
 ·cases h;exact⟨_,Try.func163,zFE,by decide+kernel⟩
 ·cases h;exact⟨_,Try.func164,zFF,by decide+kernel⟩
 ·cases h;exact⟨_,Try.func165,zFG,by decide+kernel⟩
 ·cases h;exact⟨_,Try.func166,zFH,by decide+kernel⟩
 ·cases h;exact⟨_,Try.func167,zFI,by decide+kernel⟩
 ·cases h;exact⟨_,Try.func168,zFJ,by decide+kernel⟩
 ·cases h;exact⟨_,Try.func169,zFK,by decide+kernel⟩
 ·cases h;exact⟨_,Try.func170,zFL,by decide+kernel⟩
 ·cases h;exact⟨_,Try.func171,zFM,by decide+kernel⟩
 ·cases h;exact⟨_,Try.func172,zFN,by decide+kernel⟩
 ·cases h;exact⟨_,Try.func173,zFO,by decide+kernel⟩
 ·cases h;exact⟨_,Try.func174,zFP,by decide+kernel⟩
 ·cases h;exact⟨_,Try.func175,zFQ,by decide+kernel⟩
 ·cases h;exact⟨_,Try.func180,zFR,by decide+kernel⟩
 ·cases h;exact⟨_,Try.func182,zFS,by decide+kernel⟩
 ·cases h;exact⟨_,Try.func183,zFT,by decide+kernel⟩
 ·cases h;exact⟨_,Try.func184,zFU,by decide+kernel⟩
 ·cases h;exact⟨_,Try.func185,zFV,by decide+kernel⟩
 ·cases h;exact⟨_,Try.func186,zFW,by decide+kernel⟩
 ·cases h;exact⟨_,Try.func187,zFX,by decide+kernel⟩
 ·cases h;exact⟨_,Try.func188,zFY,by decide+kernel⟩
 ·cases h;exact⟨_,Try.func189,zFZ,by decide+kernel⟩
 ·cases h;exact⟨_,Try.func190,zGa,by decide+kernel⟩
 ·cases h;exact⟨_,Try.func191,zGb,by decide+kernel⟩
 ·cases h;exact⟨_,Try.func192,zGc,by decide+kernel⟩
 ·cases h;exact⟨_,Try.func193,zGd,by decide+kernel⟩
 ·cases h;exact⟨_,Try.func194,zGe,by decide+kernel⟩
 ·cases h;exact⟨_,Try.func195,zGf,by decide+kernel⟩
 ·cases h;exact⟨_,Try.func196,zGg,by decide+kernel⟩
 ·cases h;exact⟨_,Try.func197,zGh,by decide+kernel⟩
 ·cases h;exact⟨_,Try.func198,zGi,by decide+kernel⟩
 ·cases h;exact⟨_,Try.func199,zGj,by decide+kernel⟩
 ·cases h;exact⟨_,Try.func203,zGk,by decide+kernel⟩
 ·cases h;exact⟨_,Try.func204,zGl,by decide+kernel⟩
 ·cases h;exact⟨_,Try.func205,zGm,by decide+kernel⟩
 ·cases h;exact⟨_,Try.func206,zGn,by decide+kernel⟩
 ·cases h
theorem linked:Linked [] prog Try.prog:=⟨fun f a _ h=>zLE f a h,fun f p h=>by cases h⟩
end Go.Proofs.Ythodcjjgimeeoaa.P
