/- Shaken copy of a longer text: what one law needs. Its conditions: none. -/
import Derived.Test.YtnijbejobbajfaaProg
import Derived.Test.YtnijbejobbajfaaZAiA
import Derived.Test.YtnijbejobbajfaaZDCode
import Derived.KernelRfl
set_option linter.unusedVariables false
namespace Go.Proofs.Ytnijbejobbajfaa.D
open Go.AI
theorem made8 : prepF Try.prog sh Try.f8 = some c8 := by kernel_rfl
theorem made9 : prepF Try.prog sh Try.f9 = some c9 := by kernel_rfl
theorem made10 : prepF Try.prog sh Try.f10 = some c10 := by kernel_rfl
theorem made11 : prepF Try.prog sh Try.f11 = some c11 := by kernel_rfl
theorem made12 : prepF Try.prog sh Try.f12 = some c12 := by kernel_rfl
theorem made13 : prepF Try.prog sh Try.f13 = some c13 := by kernel_rfl
theorem made14 : prepF Try.prog sh Try.f14 = some c14 := by kernel_rfl
theorem made15 : prepF Try.prog sh Try.f15 = some c15 := by kernel_rfl
theorem made16 : prepF Try.prog sh Try.f16 = some c16 := by kernel_rfl
theorem made20 : prepF Try.prog sh Try.f20 = some c20 := by kernel_rfl
theorem made21 : prepF Try.prog sh Try.f21 = some c21 := by kernel_rfl
theorem made22 : prepF Try.prog sh Try.f22 = some c22 := by kernel_rfl
theorem made25 : prepF Try.prog sh Try.f25 = some c25 := by kernel_rfl
theorem made26 : prepF Try.prog sh Try.f26 = some c26 := by kernel_rfl
theorem made34 : prepF Try.prog sh Try.f34 = some c34 := by kernel_rfl
theorem made35 : prepF Try.prog sh Try.f35 = some c35 := by kernel_rfl
theorem made36 : prepF Try.prog sh Try.f36 = some c36 := by kernel_rfl
theorem made37 : prepF Try.prog sh Try.f37 = some c37 := by kernel_rfl
theorem made38 : prepF Try.prog sh Try.f38 = some c38 := by kernel_rfl
theorem made39 : prepF Try.prog sh Try.f39 = some c39 := by kernel_rfl
theorem made40 : prepF Try.prog sh Try.f40 = some c40 := by kernel_rfl
theorem made41 : prepF Try.prog sh Try.f41 = some c41 := by kernel_rfl
theorem made42 : prepF Try.prog sh Try.f42 = some c42 := by kernel_rfl
theorem made43 : prepF Try.prog sh Try.f43 = some c43 := by kernel_rfl
theorem made44 : prepF Try.prog sh Try.f44 = some c44 := by kernel_rfl
theorem made45 : prepF Try.prog sh Try.f45 = some c45 := by kernel_rfl
theorem made46 : prepF Try.prog sh Try.f46 = some c46 := by kernel_rfl
theorem made47 : prepF Try.prog sh Try.f47 = some c47 := by kernel_rfl
theorem made48 : prepF Try.prog sh Try.f48 = some c48 := by kernel_rfl
theorem made49 : prepF Try.prog sh Try.f49 = some c49 := by kernel_rfl
theorem made50 : prepF Try.prog sh Try.f50 = some c50 := by kernel_rfl
theorem made51 : prepF Try.prog sh Try.f51 = some c51 := by kernel_rfl
theorem made52 : prepF Try.prog sh Try.f52 = some c52 := by kernel_rfl
theorem made53 : prepF Try.prog sh Try.f53 = some c53 := by kernel_rfl
theorem made54 : prepF Try.prog sh Try.f54 = some c54 := by kernel_rfl
theorem made55 : prepF Try.prog sh Try.f55 = some c55 := by kernel_rfl
theorem made56 : prepF Try.prog sh Try.f56 = some c56 := by kernel_rfl
theorem made57 : prepF Try.prog sh Try.f57 = some c57 := by kernel_rfl
theorem made59 : prepF Try.prog sh Try.f59 = some c59 := by kernel_rfl
theorem made60 : prepF Try.prog sh Try.f60 = some c60 := by kernel_rfl
theorem made63 : prepF Try.prog sh Try.f63 = some c63 := by kernel_rfl
theorem made64 : prepF Try.prog sh Try.f64 = some c64 := by kernel_rfl
theorem made65 : prepF Try.prog sh Try.f65 = some c65 := by kernel_rfl
theorem made66 : prepF Try.prog sh Try.f66 = some c66 := by kernel_rfl
theorem made70 : prepF Try.prog sh Try.f70 = some c70 := by kernel_rfl
theorem made71 : prepF Try.prog sh Try.f71 = some c71 := by kernel_rfl
theorem made72 : prepF Try.prog sh Try.f72 = some c72 := by kernel_rfl
theorem made73 : prepF Try.prog sh Try.f73 = some c73 := by kernel_rfl
theorem made74 : prepF Try.prog sh Try.f74 = some c74 := by kernel_rfl
theorem made75 : prepF Try.prog sh Try.f75 = some c75 := by kernel_rfl
theorem made76 : prepF Try.prog sh Try.f76 = some c76 := by kernel_rfl
theorem made77 : prepF Try.prog sh Try.f77 = some c77 := by kernel_rfl
theorem made78 : prepF Try.prog sh Try.f78 = some c78 := by kernel_rfl
theorem made79 : prepF Try.prog sh Try.f79 = some c79 := by kernel_rfl
theorem made80 : prepF Try.prog sh Try.f80 = some c80 := by kernel_rfl
theorem made81 : prepF Try.prog sh Try.f81 = some c81 := by kernel_rfl
theorem made82 : prepF Try.prog sh Try.f82 = some c82 := by kernel_rfl
theorem made83 : prepF Try.prog sh Try.f83 = some c83 := by kernel_rfl
theorem made84 : prepF Try.prog sh Try.f84 = some c84 := by kernel_rfl
theorem made85 : prepF Try.prog sh Try.f85 = some c85 := by kernel_rfl
theorem made86 : prepF Try.prog sh Try.f86 = some c86 := by kernel_rfl
theorem made87 : prepF Try.prog sh Try.f87 = some c87 := by kernel_rfl
theorem made88 : prepF Try.prog sh Try.f88 = some c88 := by kernel_rfl
theorem made89 : prepF Try.prog sh Try.f89 = some c89 := by kernel_rfl
theorem made90 : prepF Try.prog sh Try.f90 = some c90 := by kernel_rfl
theorem made91 : prepF Try.prog sh Try.f91 = some c91 := by kernel_rfl
theorem made92 : prepF Try.prog sh Try.f92 = some c92 := by kernel_rfl
theorem made93 : prepF Try.prog sh Try.f93 = some c93 := by kernel_rfl
theorem made94 : prepF Try.prog sh Try.f94 = some c94 := by kernel_rfl
theorem made95 : prepF Try.prog sh Try.f95 = some c95 := by kernel_rfl
theorem made96 : prepF Try.prog sh Try.f96 = some c96 := by kernel_rfl
theorem made97 : prepF Try.prog sh Try.f97 = some c97 := by kernel_rfl
theorem made98 : prepF Try.prog sh Try.f98 = some c98 := by kernel_rfl
end Go.Proofs.Ytnijbejobbajfaa.D
