/- Shaken copy of a longer text: what one law needs. Its conditions: none. -/
import Derived.Test.YtfleilibjdgcjaaPBMade
import Derived.Test.YtfleilibjdgcjaaPAiD
set_option linter.unusedVariables false
namespace Go.Proofs.Ytfleilibjdgcjaa.B
open Go.AI
theorem zOk (f:FuncId) (a:AFn) (h:fns f=some a):∃fn,Try.prog.funcs[f]? =some fn∧prepF Try.prog sh fn=some a∧(fn.name== "runtime.NumGoroutine")=false:=by
 unfold fns at h
 split at h
 ·cases h;exact⟨_,Try.func10,zJM,by decide+kernel⟩
 ·cases h;exact⟨_,Try.func11,zJN,by decide+kernel⟩
 ·cases h;exact⟨_,Try.func17,zJO,by decide+kernel⟩
 ·cases h;exact⟨_,Try.func28,zJP,by decide+kernel⟩
 ·cases h;exact⟨_,Try.func31,zJQ,by decide+kernel⟩
 ·cases h;exact⟨_,Try.func40,zJR,by decide+kernel⟩
 ·cases h;exact⟨_,Try.func41,zJS,by decide+kernel⟩
 ·cases h;exact⟨_,Try.func42,zJT,by decide+kernel⟩
 ·cases h;exact⟨_,Try.func43,zJU,by decide+kernel⟩
 ·cases h;exact⟨_,Try.func44,zJV,by decide+kernel⟩
 ·cases h;exact⟨_,Try.func45,zJW,by decide+kernel⟩
 ·cases h;exact⟨_,Try.func46,zJX,by decide+kernel⟩
 ·cases h;exact⟨_,Try.func47,zJY,by decide+kernel⟩
 ·cases h;exact⟨_,Try.func48,zJZ,by decide+kernel⟩
 ·cases h;exact⟨_,Try.func49,zKa,by decide+kernel⟩
 ·cases h;exact⟨_,Try.func50,zKb,by decide+kernel⟩
 ·cases h;exact⟨_,Try.func51,zKc,by decide+kernel⟩
 ·cases h;exact⟨_,Try.func52,zKd,by decide+kernel⟩
 ·cases h;exact⟨_,Try.func70,zKe,by decide+kernel⟩
 ·cases h;exact⟨_,Try.func71,zKf,by decide+kernel⟩
 ·cases h;exact⟨_,Try.func73,zKg,by decide+kernel⟩
 ·cases h;exact⟨_,Try.func74,zKh,by decide+kernel⟩
 ·cases h;exact⟨_,Try.func75,zKi,by decide+kernel⟩
 ·cases h;exact⟨_,Try.func76,zKj,by decide+kernel⟩
 ·cases h;exact⟨_,Try.func86,zKk,by decide+kernel⟩
 ·cases h;exact⟨_,Try.func87,zKl,by decide+kernel⟩
 ·cases h;exact⟨_,Try.func91,zKm,by decide+kernel⟩
 ·cases h;exact⟨_,Try.func93,zKn,by decide+kernel⟩
 ·cases h;exact⟨_,Try.func102,zGA,by decide+kernel⟩
 ·cases h;exact⟨_,Try.func104,zGB,by decide+kernel⟩
 ·cases h;exact⟨_,Try.func108,zGC,by decide+kernel⟩
 ·cases h;exact⟨_,Try.func109,zGD,by decide+kernel⟩
 ·cases h;exact⟨_,Try.func110,zGE,by decide+kernel⟩
 ·cases h;exact⟨_,Try.func111,zGF,by decide+kernel⟩
 ·cases h;exact⟨_,Try.func112,zGG,by decide+kernel⟩
 ·cases h;exact⟨_,Try.func113,zGH,by decide+kernel⟩
 ·cases h;exact⟨_,Try.func114,zGI,by decide+kernel⟩
 ·cases h;exact⟨_,Try.func115,zGJ,by decide+kernel⟩
 ·cases h;exact⟨_,Try.func116,zGK,by decide+kernel⟩
 ·cases h;exact⟨_,Try.func117,zGL,by decide+kernel⟩
 ·cases h;exact⟨_,Try.func118,zGM,by decide+kernel⟩
 ·cases h;exact⟨_,Try.func119,zGN,by decide+kernel⟩
 ·cases h;exact⟨_,Try.func120,zGO,by decide+kernel⟩
 ·cases h;exact⟨_,Try.func121,zGP,by decide+kernel⟩
 ·cases h;exact⟨_,Try.func125,zGQ,by decide+kernel⟩
 ·cases h;exact⟨_,Try.func128,zGR,by decide+kernel⟩
 ·cases h;exact⟨_,Try.func139,zGS,by decide+kernel⟩
 ·cases h;exact⟨_,Try.func140,zGT,by decide+kernel⟩
 ·cases h;exact⟨_,Try.func141,zGU,by decide+kernel⟩
 ·cases h;exact⟨_,Try.func142,zGV,by decide+kernel⟩
 ·cases h;exact⟨_,Try.func143,zGW,by decide+kernel⟩
 ·cases h;exact⟨_,Try.func144,zGX,by decide+kernel⟩
 ·cases h;exact⟨_,Try.func145,zGY,by decide+kernel⟩
 ·cases h;exact⟨_,Try.func146,zGZ,by decide+kernel⟩
 ·cases h;exact⟨_,Try.func147,zHa,by decide+kernel⟩
 ·cases h;exact⟨_,Try.func157,zHb,by decide+kernel⟩
 ·cases h;exact⟨_,Try.func162,zHc,by decide+kernel⟩
 ·cases h;exact⟨_,Try.func163,zHd,by decide+kernel⟩
 ·cases h;exact⟨_,Try.func164,zHe,by decide+kernel⟩
 ·cases h;exact⟨_,Try.func165,zHf,by decide+kernel⟩
 ·cases h;exact⟨_,Try.func166,zHg,by decide+kernel⟩
 ·cases h;exact⟨_,Try.func173,zHh,by decide+kernel⟩
 ·cases h;exact⟨_,Try.func175,zHi,by decide+kernel⟩
 ·cases h;exact⟨_,Try.func176,zHj,by decide+kernel⟩
 ·cases h;exact⟨_,Try.func177,zHk,by decide+kernel⟩
 ·cases h;exact⟨_,Try.func178,zHl,by decide+kernel⟩
 ·cases h;exact⟨_,Try.func179,zHm,by decide+kernel⟩
 ·cases h;exact⟨_,Try.func186,zHn,by decide+kernel⟩
 ·cases h;exact⟨_,Try.func187,zHo,by decide+kernel⟩
 ·cases h;exact⟨_,Try.func188,zHp,by decide+kernel⟩
 ·cases h;exact⟨_,Try.func191,zHq,by decide+kernel⟩
 ·cases h;exact⟨_,Try.func192,zHr,by decide+kernel⟩
 ·cases h;exact⟨_,Try.func193,zHs,by decide+kernel⟩
 ·cases h;exact⟨_,Try.func202,zHt,by decide+kernel⟩
 ·cases h;exact⟨_,Try.func203,zHu,by decide+kernel⟩
 ·cases h;exact⟨_,Try.func204,zHv,by decide+kernel⟩
 ·cases h;exact⟨_,Try.func205,zHw,by decide+kernel⟩
 ·cases h;exact⟨_,Try.func206,zHx,by decide+kernel⟩
 ·cases h;exact⟨_,Try.func207,zHy,by decide+kernel⟩
 ·cases h;exact⟨_,Try.func208,zHz,by decide+kernel⟩
 ·cases h;exact⟨_,Try.func211,zHA,by decide+kernel⟩
 ·cases h;exact⟨_,Try.func214,zHB,by decide+kernel⟩
 ·cases h;exact⟨_,Try.func215,zHC,by decide+kernel⟩
 ·cases h;exact⟨_,Try.func216,zHD,by decide+kernel⟩
 ·cases h;exact⟨_,Try.func217,zHE,by decide+kernel⟩
 ·cases h;exact⟨_,Try.func218,zHF,by decide+kernel⟩
 ·cases h;exact⟨_,Try.func219,zHG,by decide+kernel⟩
 ·cases h;exact⟨_,Try.func220,zHH,by decide+kernel⟩
 ·cases h;exact⟨_,Try.func221,zHI,by decide+kernel⟩
 ·cases h;exact⟨_,Try.func222,zHJ,by decide+kernel⟩
 ·cases h;exact⟨_,Try.func229,zHK,by decide+kernel⟩
 ·cases h;exact⟨_,Try.func230,zHL,by decide+kernel⟩
 ·cases h;exact⟨_,Try.func231,zHM,by decide+kernel⟩
 ·cases h
theorem linked:Linked [] prog Try.prog:=⟨fun f a _ h=>zOk f a h,fun f p h=>by cases h⟩
end Go.Proofs.Ytfleilibjdgcjaa.B
