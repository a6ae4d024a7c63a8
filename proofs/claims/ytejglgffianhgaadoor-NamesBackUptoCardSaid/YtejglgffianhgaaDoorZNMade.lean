/- Shaken copy of a longer text: what one law needs. Its conditions: none. -/
import Derived.Test.YtejglgffianhgaaDoorProg
import Derived.Test.YtejglgffianhgaaDoorZAiA
import Derived.Test.YtejglgffianhgaaDoorZNCode
import Derived.KernelRfl
set_option linter.unusedVariables false
namespace Go.Proofs.YtejglgffianhgaaDoor.N
open Go.AI
theorem made3 : prepF Tryd.prog sh Tryd.f3 = some c3 := by kernel_rfl
theorem made4 : prepF Tryd.prog sh Tryd.f4 = some c4 := by kernel_rfl
theorem made5 : prepF Tryd.prog sh Tryd.f5 = some c5 := by kernel_rfl
theorem made6 : prepF Tryd.prog sh Tryd.f6 = some c6 := by kernel_rfl
theorem made7 : prepF Tryd.prog sh Tryd.f7 = some c7 := by kernel_rfl
theorem made8 : prepF Tryd.prog sh Tryd.f8 = some c8 := by kernel_rfl
theorem made9 : prepF Tryd.prog sh Tryd.f9 = some c9 := by kernel_rfl
theorem made13 : prepF Tryd.prog sh Tryd.f13 = some c13 := by kernel_rfl
theorem made14 : prepF Tryd.prog sh Tryd.f14 = some c14 := by kernel_rfl
theorem made15 : prepF Tryd.prog sh Tryd.f15 = some c15 := by kernel_rfl
theorem made16 : prepF Tryd.prog sh Tryd.f16 = some c16 := by kernel_rfl
theorem made17 : prepF Tryd.prog sh Tryd.f17 = some c17 := by kernel_rfl
theorem made18 : prepF Tryd.prog sh Tryd.f18 = some c18 := by kernel_rfl
theorem made19 : prepF Tryd.prog sh Tryd.f19 = some c19 := by kernel_rfl
theorem made20 : prepF Tryd.prog sh Tryd.f20 = some c20 := by kernel_rfl
theorem made21 : prepF Tryd.prog sh Tryd.f21 = some c21 := by kernel_rfl
theorem made22 : prepF Tryd.prog sh Tryd.f22 = some c22 := by kernel_rfl
theorem made23 : prepF Tryd.prog sh Tryd.f23 = some c23 := by kernel_rfl
theorem made24 : prepF Tryd.prog sh Tryd.f24 = some c24 := by kernel_rfl
theorem made25 : prepF Tryd.prog sh Tryd.f25 = some c25 := by kernel_rfl
theorem made26 : prepF Tryd.prog sh Tryd.f26 = some c26 := by kernel_rfl
theorem made27 : prepF Tryd.prog sh Tryd.f27 = some c27 := by kernel_rfl
theorem made28 : prepF Tryd.prog sh Tryd.f28 = some c28 := by kernel_rfl
theorem made29 : prepF Tryd.prog sh Tryd.f29 = some c29 := by kernel_rfl
theorem made30 : prepF Tryd.prog sh Tryd.f30 = some c30 := by kernel_rfl
theorem made31 : prepF Tryd.prog sh Tryd.f31 = some c31 := by kernel_rfl
theorem made32 : prepF Tryd.prog sh Tryd.f32 = some c32 := by kernel_rfl
theorem made33 : prepF Tryd.prog sh Tryd.f33 = some c33 := by kernel_rfl
theorem made34 : prepF Tryd.prog sh Tryd.f34 = some c34 := by kernel_rfl
theorem made35 : prepF Tryd.prog sh Tryd.f35 = some c35 := by kernel_rfl
theorem made36 : prepF Tryd.prog sh Tryd.f36 = some c36 := by kernel_rfl
theorem made37 : prepF Tryd.prog sh Tryd.f37 = some c37 := by kernel_rfl
theorem made38 : prepF Tryd.prog sh Tryd.f38 = some c38 := by kernel_rfl
theorem made52 : prepF Tryd.prog sh Tryd.f52 = some c52 := by kernel_rfl
theorem made53 : prepF Tryd.prog sh Tryd.f53 = some c53 := by kernel_rfl
theorem made54 : prepF Tryd.prog sh Tryd.f54 = some c54 := by kernel_rfl
theorem made55 : prepF Tryd.prog sh Tryd.f55 = some c55 := by kernel_rfl
theorem made56 : prepF Tryd.prog sh Tryd.f56 = some c56 := by kernel_rfl
theorem made57 : prepF Tryd.prog sh Tryd.f57 = some c57 := by kernel_rfl
theorem made58 : prepF Tryd.prog sh Tryd.f58 = some c58 := by kernel_rfl
theorem made59 : prepF Tryd.prog sh Tryd.f59 = some c59 := by kernel_rfl
theorem made60 : prepF Tryd.prog sh Tryd.f60 = some c60 := by kernel_rfl
theorem made61 : prepF Tryd.prog sh Tryd.f61 = some c61 := by kernel_rfl
theorem made62 : prepF Tryd.prog sh Tryd.f62 = some c62 := by kernel_rfl
theorem made63 : prepF Tryd.prog sh Tryd.f63 = some c63 := by kernel_rfl
theorem made64 : prepF Tryd.prog sh Tryd.f64 = some c64 := by kernel_rfl
theorem made86 : prepF Tryd.prog sh Tryd.f86 = some c86 := by kernel_rfl
theorem made87 : prepF Tryd.prog sh Tryd.f87 = some c87 := by kernel_rfl
theorem made89 : prepF Tryd.prog sh Tryd.f89 = some c89 := by kernel_rfl
theorem made90 : prepF Tryd.prog sh Tryd.f90 = some c90 := by kernel_rfl
theorem made91 : prepF Tryd.prog sh Tryd.f91 = some c91 := by kernel_rfl
theorem made92 : prepF Tryd.prog sh Tryd.f92 = some c92 := by kernel_rfl
theorem made108 : prepF Tryd.prog sh Tryd.f108 = some c108 := by kernel_rfl
end Go.Proofs.YtejglgffianhgaaDoor.N
