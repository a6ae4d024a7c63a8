/- Shaken copy of a longer text: what one law needs. Its conditions: none. -/
import Derived.Test.YtejglgffianhgaaDoorZAiA
import Derived.Lib.ValidU
import Derived.Lib.Bytealg
namespace Go.AI
def primValid : List D → Option D
  | [.str s] => if s.length ≤ 9223372036854775807 then some (.bool (Lib.validD s)) else none
  | _ => none
def primIndex : List D → Option D
  | [.str s, .str [c]] => some (.int .i64 (Lib.indexByte s c))
  | _ => none
end Go.AI
