/- Shaken copy of a longer text: what one law needs. Its conditions: none. -/
import Derived.Test.YtfleilibjdgcjaaYVMade
import Derived.Test.YtfleilibjdgcjaaYAiD
set_option linter.unusedVariables false
namespace Go.Proofs.Ytfleilibjdgcjaa.V
open Go.AI
theorem zLO (f:FuncId) (a:AFn) (h:fns f=some a):∃fn,Try.prog.funcs[f]? =some fn∧prepF Try.prog sh fn=some a∧(fn.name== "runtime.NumGoroutine")=false:=by
 unfold fns at h
 split at h
 ·cases h;exact⟨_,Try.func4,zLK,by decide+kernel⟩
 ·cases h;exact⟨_,Try.func5,zLL,by decide+kernel⟩
 ·cases h;exact⟨_,Try.func7,zLM,by decide+kernel⟩
 ·cases h;exact⟨_,Try.func8,zLN,by decide+kernel⟩
 ·cases h;exact⟨_,Try.func21,zHC,by decide+kernel⟩
 ·cases h;exact⟨_,Try.func22,zHD,by decide+kernel⟩
 ·cases h;exact⟨_,Try.func23,zHE,by decide+kernel⟩
 ·cases h;exact⟨_,Try.func24,zHF,by decide+kernel⟩
 ·cases h;exact⟨_,Try.func25,zHG,by decide+kernel⟩
 ·cases h;exact⟨_,Try.func26,zHH,by decide+kernel⟩
 ·cases h;exact⟨_,Try.func27,zHI,by decide+kernel⟩
 ·cases h;exact⟨_,Try.func28,zHJ,by decide+kernel⟩
 ·cases h;exact⟨_,Try.func31,zHK,by decide+kernel⟩
 ·cases h;exact⟨_,Try.func34,zHL,by decide+kernel⟩
 ·cases h;exact⟨_,Try.func45,zHM,by decide+kernel⟩
 ·cases h;exact⟨_,Try.func61,zHN,by decide+kernel⟩
 ·cases h;exact⟨_,Try.func68,zHO,by decide+kernel⟩
 ·cases h;exact⟨_,Try.func73,zHP,by decide+kernel⟩
 ·cases h;exact⟨_,Try.func87,zHQ,by decide+kernel⟩
 ·cases h;exact⟨_,Try.func88,zHR,by decide+kernel⟩
 ·cases h;exact⟨_,Try.func89,zHS,by decide+kernel⟩
 ·cases h;exact⟨_,Try.func90,zHT,by decide+kernel⟩
 ·cases h;exact⟨_,Try.func91,zHU,by decide+kernel⟩
 ·cases h;exact⟨_,Try.func92,zHV,by decide+kernel⟩
 ·cases h;exact⟨_,Try.func93,zHW,by decide+kernel⟩
 ·cases h;exact⟨_,Try.func98,zHX,by decide+kernel⟩
 ·cases h;exact⟨_,Try.func115,zEm,by decide+kernel⟩
 ·cases h;exact⟨_,Try.func126,zEn,by decide+kernel⟩
 ·cases h;exact⟨_,Try.func128,zEo,by decide+kernel⟩
 ·cases h;exact⟨_,Try.func133,zEp,by decide+kernel⟩
 ·cases h;exact⟨_,Try.func134,zEq,by decide+kernel⟩
 ·cases h;exact⟨_,Try.func138,zEr,by decide+kernel⟩
 ·cases h;exact⟨_,Try.func140,zEs,by decide+kernel⟩
 ·cases h;exact⟨_,Try.func157,zEt,by decide+kernel⟩
 ·cases h;exact⟨_,Try.func158,zEu,by decide+kernel⟩
 ·cases h;exact⟨_,Try.func159,zEv,by decide+kernel⟩
 ·cases h;exact⟨_,Try.func160,zEw,by decide+kernel⟩
 ·cases h;exact⟨_,Try.func161,zEx,by decide+kernel⟩
 ·cases h;exact⟨_,Try.func162,zEy,by decide+kernel⟩
 ·cases h;exact⟨_,Try.func163,zEz,by decide+kernel⟩
 ·cases h;exact⟨_,Try.func164,zEA,by decide+kernel⟩
 ·cases h;exact⟨_,Try.func182,zEB,by decide+kernel⟩
 ·cases h;exact⟨_,Try.func183,zEC,by decide+kernel⟩
 ·cases h;exact⟨_,Try.func185,zED,by decide+kernel⟩
 ·cases h;exact⟨_,Try.func188,zEE,by decide+kernel⟩
 ·cases h;exact⟨_,Try.func191,zEF,by decide+kernel⟩
 ·cases h;exact⟨_,Try.func192,zEG,by decide+kernel⟩
 ·cases h;exact⟨_,Try.func193,zEH,by decide+kernel⟩
 ·cases h;exact⟨_,Try.func194,zEI,by decide+kernel⟩
 ·cases h;exact⟨_,Try.func195,zEJ,by decide+kernel⟩
 ·cases h;exact⟨_,Try.func196,zEK,by decide+kernel⟩
 ·cases h;exact⟨_,Try.func197,zEL,by decide+kernel⟩
 ·cases h;exact⟨_,Try.func198,zEM,by decide+kernel⟩
 ·cases h;exact⟨_,Try.func199,zEN,by decide+kernel⟩
 ·cases h;exact⟨_,Try.func200,zEO,by decide+kernel⟩
 ·cases h;exact⟨_,Try.func201,zEP,by decide+kernel⟩
 ·cases h;exact⟨_,Try.func202,zEQ,by decide+kernel⟩
 ·cases h;exact⟨_,Try.func203,zER,by decide+kernel⟩
 ·cases h;exact⟨_,Try.func204,zES,by decide+kernel⟩
 ·cases h;exact⟨_,Try.func205,zET,by decide+kernel⟩
 ·cases h;exact⟨_,Try.func206,zEU,by decide+kernel⟩
 ·cases h;exact⟨_,Try.func207,zEV,by decide+kernel⟩
 ·cases h;exact⟨_,Try.func208,zEW,by decide+kernel⟩
 ·cases h;exact⟨_,Try.func211,zEX,by decide+kernel⟩
 ·cases h;exact⟨_,Try.func214,zEY,by decide+kernel⟩
 ·cases h;exact⟨_,Try.func215,zEZ,by decide+kernel⟩
 ·cases h;exact⟨_,Try.func216,zFa,by decide+kernel⟩
 ·cases h;exact⟨_,Try.func217,zFb,by decide+kernel⟩
 ·cases h;exact⟨_,Try.func218,zFc,by decide+kernel⟩
 ·cases h;exact⟨_,Try.func219,zFd,by decide+kernel⟩
 ·cases h;exact⟨_,Try.func220,zFe,by decide+kernel⟩
 ·cases h;exact⟨_,Try.func221,zFf,by decide+kernel⟩
 ·cases h;exact⟨_,Try.func222,zFg,by decide+kernel⟩
 ·cases h;exact⟨_,Try.func223,zFh,by decide+kernel⟩
 ·cases h;exact⟨_,Try.func224,zFi,by decide+kernel⟩
 ·cases h;exact⟨_,Try.func225,zFj,by decide+kernel⟩
 ·cases h;exact⟨_,Try.func226,zFk,by decide+kernel⟩
 ·cases h;exact⟨_,Try.func227,zFl,by decide+kernel⟩
 ·cases h;exact⟨_,Try.func228,zFm,by decide+kernel⟩
 ·cases h;exact⟨_,Try.func229,zFn,by decide+kernel⟩
 ·cases h;exact⟨_,Try.func230,zFo,by decide+kernel⟩
 ·cases h;exact⟨_,Try.func231,zFp,by decide+kernel⟩
 ·cases h;exact⟨_,Try.func232,zFq,by decide+kernel⟩
 ·cases h;exact⟨_,Try.func233,zFr,by decide+kernel⟩
 ·cases h;exact⟨_,Try.func234,zFs,by decide+kernel⟩
 ·cases h;exact⟨_,Try.func235,zFt,by decide+kernel⟩
 ·cases h;exact⟨_,Try.func236,zFu,by decide+kernel⟩
 ·cases h;exact⟨_,Try.func237,zFv,by decide+kernel⟩
 ·cases h;exact⟨_,Try.func238,zFw,by decide+kernel⟩
 ·cases h;exact⟨_,Try.func239,zFx,by decide+kernel⟩
 ·cases h
theorem linked:Linked [] prog Try.prog:=⟨fun f a _ h=>zLO f a h,fun f p h=>by cases h⟩
end Go.Proofs.Ytfleilibjdgcjaa.V
