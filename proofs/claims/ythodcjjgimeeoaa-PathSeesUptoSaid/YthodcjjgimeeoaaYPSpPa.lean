/- Shaken copy of a longer text: what one law needs. Its conditions: none. -/
import Derived.Test.YthodcjjgimeeoaaYPSpRk
set_option linter.unusedSimpArgs false
set_option linter.unusedVariables false
set_option linter.unusedSimpArgs false
set_option linter.unusedVariables false
set_option linter.unusedSectionVars false
set_option linter.unnecessarySimpa false
namespace Go.Proofs.Ythodcjjgimeeoaa.P
open Go.AI
def Hid (f:List Node) (a b:Int):Prop:=isN f a∧(nodeD f (root f a)).kind=12∧root f a∉upc f b
instance (f:List Node) (a b:Int):Decidable (Hid f a b):=inferInstanceAs (Decidable (_∧_))
def zKz (f:List Node) (b:Int):Nat→Int→Int
 |0,a=>a
 |n+1,a=>if Hid f a b then zKz f b n (nodeD f (root f a)).host else a
def ret (f:List Node) (a b:Int):Int:=zKz f b (f.length+1) a
section
variable (f:List Node) (hand:List Assign) (rel org:Int) (comp:Bool)
end
section
variable {f:List Node} {hand:List Assign} {rel org:Int} {comp:Bool}
end
section
variable {f:List Node} {hand:List Assign} {rel org:Int}
end
end Go.Proofs.Ythodcjjgimeeoaa.P
