/-
  The code of the program is the code that was walked.
  The code of the program is the code that was walked.
-/
import Derived.Test.YtldmhpdjlgoenaaGreatDoorBw11
import Derived.Test.YtldmhpdjlgoenaaGreatDoorProg
import Derived.KernelRfl
set_option linter.unusedVariables false
set_option linter.unusedSimpArgs false
namespace Go.Proofs.YtldmhpdjlgoenaaGreatDoor.BN
open Go.Proofs.YtldmhpdjlgoenaaGreatDoor.Eo
open Go.Proofs (Tryz.prog)
noncomputable section
theorem c3_eq : cCF Tryz.prog 3 2 = some c3 := by kernel_rfl
theorem e3 : hasE Tryz.prog 3 = true := by kernel_rfl
theorem c4_eq : cCF Tryz.prog 4 1 = some c4 := by kernel_rfl
theorem e4 : hasE Tryz.prog 4 = true := by kernel_rfl
theorem c5_eq : cCF Tryz.prog 5 1 = some c5 := by kernel_rfl
theorem e5 : hasE Tryz.prog 5 = true := by kernel_rfl
theorem c6_eq : cCF Tryz.prog 6 1 = some c6 := by kernel_rfl
theorem e6 : hasE Tryz.prog 6 = true := by kernel_rfl
theorem c7_eq : cCF Tryz.prog 7 1 = some c7 := by kernel_rfl
theorem e7 : hasE Tryz.prog 7 = true := by kernel_rfl
theorem c8_eq : cCF Tryz.prog 8 2 = some c8 := by kernel_rfl
theorem e8 : hasE Tryz.prog 8 = true := by kernel_rfl
theorem c9_eq : cCF Tryz.prog 9 2 = some c9 := by kernel_rfl
theorem e9 : hasE Tryz.prog 9 = true := by kernel_rfl
theorem c10_eq : cCF Tryz.prog 10 1 = some c10 := by kernel_rfl
theorem e10 : hasE Tryz.prog 10 = true := by kernel_rfl
theorem c11_eq : cCF Tryz.prog 11 1 = some c11 := by kernel_rfl
theorem e11 : hasE Tryz.prog 11 = true := by kernel_rfl
theorem c12_eq : cCF Tryz.prog 12 2 = some c12 := by kernel_rfl
theorem e12 : hasE Tryz.prog 12 = true := by kernel_rfl
theorem c13_eq : cCF Tryz.prog 13 2 = some c13 := by kernel_rfl
theorem e13 : hasE Tryz.prog 13 = true := by kernel_rfl
theorem c14_eq : cCF Tryz.prog 14 2 = some c14 := by kernel_rfl
theorem e14 : hasE Tryz.prog 14 = true := by kernel_rfl
theorem c15_eq : cCF Tryz.prog 15 5 = some c15 := by kernel_rfl
theorem e15 : hasE Tryz.prog 15 = true := by kernel_rfl
theorem c16_eq : cCF Tryz.prog 16 5 = some c16 := by kernel_rfl
theorem e16 : hasE Tryz.prog 16 = true := by kernel_rfl
theorem c17_eq : cCF Tryz.prog 17 1 = some c17 := by kernel_rfl
theorem e17 : hasE Tryz.prog 17 = true := by kernel_rfl
theorem c18_eq : cCF Tryz.prog 18 1 = some c18 := by kernel_rfl
theorem e18 : hasE Tryz.prog 18 = true := by kernel_rfl
theorem c19_eq : cCF Tryz.prog 19 1 = some c19 := by kernel_rfl
theorem e19 : hasE Tryz.prog 19 = true := by kernel_rfl
theorem c20_eq : cCF Tryz.prog 20 1 = some c20 := by kernel_rfl
theorem e20 : hasE Tryz.prog 20 = true := by kernel_rfl
theorem c21_eq : cCF Tryz.prog 21 1 = some c21 := by kernel_rfl
theorem e21 : hasE Tryz.prog 21 = true := by kernel_rfl
theorem c22_eq : cCF Tryz.prog 22 1 = some c22 := by kernel_rfl
theorem e22 : hasE Tryz.prog 22 = true := by kernel_rfl
theorem c23_eq : cCF Tryz.prog 23 2 = some c23 := by kernel_rfl
theorem e23 : hasE Tryz.prog 23 = true := by kernel_rfl
theorem c24_eq : cCF Tryz.prog 24 2 = some c24 := by kernel_rfl
theorem e24 : hasE Tryz.prog 24 = true := by kernel_rfl
theorem c25_eq : cCF Tryz.prog 25 5 = some c25 := by kernel_rfl
theorem e25 : hasE Tryz.prog 25 = true := by kernel_rfl
theorem c26_eq : cCF Tryz.prog 26 1 = some c26 := by kernel_rfl
theorem e26 : hasE Tryz.prog 26 = true := by kernel_rfl
theorem c27_eq : cCF Tryz.prog 27 1 = some c27 := by kernel_rfl
theorem e27 : hasE Tryz.prog 27 = true := by kernel_rfl
theorem c28_eq : cCF Tryz.prog 28 1 = some c28 := by kernel_rfl
theorem e28 : hasE Tryz.prog 28 = true := by kernel_rfl
theorem c29_eq : cCF Tryz.prog 29 1 = some c29 := by kernel_rfl
theorem e29 : hasE Tryz.prog 29 = true := by kernel_rfl
theorem c30_eq : cCF Tryz.prog 30 2 = some c30 := by kernel_rfl
theorem e30 : hasE Tryz.prog 30 = true := by kernel_rfl
theorem c31_eq : cCF Tryz.prog 31 2 = some c31 := by kernel_rfl
theorem e31 : hasE Tryz.prog 31 = true := by kernel_rfl
theorem c32_eq : cCF Tryz.prog 32 5 = some c32 := by kernel_rfl
theorem e32 : hasE Tryz.prog 32 = true := by kernel_rfl
theorem c33_eq : cCF Tryz.prog 33 2 = some c33 := by kernel_rfl
theorem e33 : hasE Tryz.prog 33 = true := by kernel_rfl
theorem c34_eq : cCF Tryz.prog 34 1 = some c34 := by kernel_rfl
theorem e34 : hasE Tryz.prog 34 = true := by kernel_rfl
theorem c35_eq : cCF Tryz.prog 35 1 = some c35 := by kernel_rfl
theorem e35 : hasE Tryz.prog 35 = true := by kernel_rfl
theorem c36_eq : cCF Tryz.prog 36 1 = some c36 := by kernel_rfl
theorem e36 : hasE Tryz.prog 36 = true := by kernel_rfl
theorem c37_eq : cCF Tryz.prog 37 5 = some c37 := by kernel_rfl
theorem e37 : hasE Tryz.prog 37 = true := by kernel_rfl
theorem c38_eq : cCF Tryz.prog 38 1 = some c38 := by kernel_rfl
theorem e38 : hasE Tryz.prog 38 = true := by kernel_rfl
theorem c39_eq : cCF Tryz.prog 39 1 = some c39 := by kernel_rfl
theorem e39 : hasE Tryz.prog 39 = true := by kernel_rfl
theorem c40_eq : cCF Tryz.prog 40 2 = some c40 := by kernel_rfl
theorem e40 : hasE Tryz.prog 40 = true := by kernel_rfl
theorem c41_eq : cCF Tryz.prog 41 1 = some c41 := by kernel_rfl
theorem e41 : hasE Tryz.prog 41 = true := by kernel_rfl
theorem c42_eq : cCF Tryz.prog 42 1 = some c42 := by kernel_rfl
theorem e42 : hasE Tryz.prog 42 = true := by kernel_rfl
theorem c43_eq : cCF Tryz.prog 43 1 = some c43 := by kernel_rfl
theorem e43 : hasE Tryz.prog 43 = true := by kernel_rfl
theorem c44_eq : cCF Tryz.prog 44 2 = some c44 := by kernel_rfl
theorem e44 : hasE Tryz.prog 44 = true := by kernel_rfl
theorem c45_eq : cCF Tryz.prog 45 1 = some c45 := by kernel_rfl
theorem e45 : hasE Tryz.prog 45 = true := by kernel_rfl
theorem c46_eq : cCF Tryz.prog 46 3 = some c46 := by kernel_rfl
theorem e46 : hasE Tryz.prog 46 = true := by kernel_rfl
theorem c47_eq : cCF Tryz.prog 47 1 = some c47 := by kernel_rfl
theorem e47 : hasE Tryz.prog 47 = true := by kernel_rfl
theorem c48_eq : cCF Tryz.prog 48 2 = some c48 := by kernel_rfl
theorem e48 : hasE Tryz.prog 48 = true := by kernel_rfl
theorem c49_eq : cCF Tryz.prog 49 1 = some c49 := by kernel_rfl
theorem e49 : hasE Tryz.prog 49 = true := by kernel_rfl
theorem c58_eq : cCF Tryz.prog 58 1 = some c58 := by kernel_rfl
theorem e58 : hasE Tryz.prog 58 = true := by kernel_rfl
theorem c59_eq : cCF Tryz.prog 59 1 = some c59 := by kernel_rfl
theorem e59 : hasE Tryz.prog 59 = true := by kernel_rfl
theorem c60_eq : cCF Tryz.prog 60 1 = some c60 := by kernel_rfl
theorem e60 : hasE Tryz.prog 60 = true := by kernel_rfl
theorem c61_eq : cCF Tryz.prog 61 5 = some c61 := by kernel_rfl
theorem e61 : hasE Tryz.prog 61 = true := by kernel_rfl
theorem c62_eq : cCF Tryz.prog 62 1 = some c62 := by kernel_rfl
theorem e62 : hasE Tryz.prog 62 = true := by kernel_rfl
theorem c63_eq : cCF Tryz.prog 63 1 = some c63 := by kernel_rfl
theorem e63 : hasE Tryz.prog 63 = true := by kernel_rfl
theorem c64_eq : cCF Tryz.prog 64 2 = some c64 := by kernel_rfl
theorem e64 : hasE Tryz.prog 64 = true := by kernel_rfl
end
end Go.Proofs.YtldmhpdjlgoenaaGreatDoor.BN

namespace Go.Proofs.YtldmhpdjlgoenaaGreatDoor.BN
open Go.Proofs.YtldmhpdjlgoenaaGreatDoor.Eo
open Go.Proofs (Tryz.prog)
noncomputable section
theorem c65_eq : cCF Tryz.prog 65 2 = some c65 := by kernel_rfl
theorem e65 : hasE Tryz.prog 65 = true := by kernel_rfl
theorem c66_eq : cCF Tryz.prog 66 2 = some c66 := by kernel_rfl
theorem e66 : hasE Tryz.prog 66 = true := by kernel_rfl
theorem c67_eq : cCF Tryz.prog 67 1 = some c67 := by kernel_rfl
theorem e67 : hasE Tryz.prog 67 = true := by kernel_rfl
theorem c68_eq : cCF Tryz.prog 68 1 = some c68 := by kernel_rfl
theorem e68 : hasE Tryz.prog 68 = true := by kernel_rfl
theorem c69_eq : cCF Tryz.prog 69 3 = some c69 := by kernel_rfl
theorem e69 : hasE Tryz.prog 69 = true := by kernel_rfl
theorem c70_eq : cCF Tryz.prog 70 3 = some c70 := by kernel_rfl
theorem e70 : hasE Tryz.prog 70 = true := by kernel_rfl
theorem c71_eq : cCF Tryz.prog 71 3 = some c71 := by kernel_rfl
theorem e71 : hasE Tryz.prog 71 = true := by kernel_rfl
theorem c72_eq : cCF Tryz.prog 72 3 = some c72 := by kernel_rfl
theorem e72 : hasE Tryz.prog 72 = true := by kernel_rfl
theorem c73_eq : cCF Tryz.prog 73 1 = some c73 := by kernel_rfl
theorem e73 : hasE Tryz.prog 73 = true := by kernel_rfl
theorem c74_eq : cCF Tryz.prog 74 5 = some c74 := by kernel_rfl
theorem e74 : hasE Tryz.prog 74 = true := by kernel_rfl
theorem c75_eq : cCF Tryz.prog 75 3 = some c75 := by kernel_rfl
theorem e75 : hasE Tryz.prog 75 = true := by kernel_rfl
theorem c76_eq : cCF Tryz.prog 76 3 = some c76 := by kernel_rfl
theorem e76 : hasE Tryz.prog 76 = true := by kernel_rfl
theorem c77_eq : cCF Tryz.prog 77 3 = some c77 := by kernel_rfl
theorem e77 : hasE Tryz.prog 77 = true := by kernel_rfl
theorem c78_eq : cCF Tryz.prog 78 3 = some c78 := by kernel_rfl
theorem e78 : hasE Tryz.prog 78 = true := by kernel_rfl
theorem c79_eq : cCF Tryz.prog 79 1 = some c79 := by kernel_rfl
theorem e79 : hasE Tryz.prog 79 = true := by kernel_rfl
theorem c80_eq : cCF Tryz.prog 80 5 = some c80 := by kernel_rfl
theorem e80 : hasE Tryz.prog 80 = true := by kernel_rfl
theorem c81_eq : cCF Tryz.prog 81 2 = some c81 := by kernel_rfl
theorem e81 : hasE Tryz.prog 81 = true := by kernel_rfl
theorem c82_eq : cCF Tryz.prog 82 3 = some c82 := by kernel_rfl
theorem e82 : hasE Tryz.prog 82 = true := by kernel_rfl
theorem c83_eq : cCF Tryz.prog 83 6 = some c83 := by kernel_rfl
theorem e83 : hasE Tryz.prog 83 = true := by kernel_rfl
theorem c84_eq : cCF Tryz.prog 84 1 = some c84 := by kernel_rfl
theorem e84 : hasE Tryz.prog 84 = true := by kernel_rfl
theorem c85_eq : cCF Tryz.prog 85 2 = some c85 := by kernel_rfl
theorem e85 : hasE Tryz.prog 85 = true := by kernel_rfl
theorem c86_eq : cCF Tryz.prog 86 1 = some c86 := by kernel_rfl
theorem e86 : hasE Tryz.prog 86 = true := by kernel_rfl
theorem c87_eq : cCF Tryz.prog 87 4 = some c87 := by kernel_rfl
theorem e87 : hasE Tryz.prog 87 = true := by kernel_rfl
theorem c88_eq : cCF Tryz.prog 88 4 = some c88 := by kernel_rfl
theorem e88 : hasE Tryz.prog 88 = true := by kernel_rfl
theorem c93_eq : cCF Tryz.prog 93 3 = some c93 := by kernel_rfl
theorem e93 : hasE Tryz.prog 93 = true := by kernel_rfl
theorem c94_eq : cCF Tryz.prog 94 1 = some c94 := by kernel_rfl
theorem e94 : hasE Tryz.prog 94 = true := by kernel_rfl
theorem c95_eq : cCF Tryz.prog 95 1 = some c95 := by kernel_rfl
theorem e95 : hasE Tryz.prog 95 = true := by kernel_rfl
theorem c98_eq : cCF Tryz.prog 98 3 = some c98 := by kernel_rfl
theorem e98 : hasE Tryz.prog 98 = true := by kernel_rfl
theorem c99_eq : cCF Tryz.prog 99 1 = some c99 := by kernel_rfl
theorem e99 : hasE Tryz.prog 99 = true := by kernel_rfl
theorem c100_eq : cCF Tryz.prog 100 1 = some c100 := by kernel_rfl
theorem e100 : hasE Tryz.prog 100 = true := by kernel_rfl
theorem c102_eq : cCF Tryz.prog 102 3 = some c102 := by kernel_rfl
theorem e102 : hasE Tryz.prog 102 = true := by kernel_rfl
theorem c103_eq : cCF Tryz.prog 103 1 = some c103 := by kernel_rfl
theorem e103 : hasE Tryz.prog 103 = true := by kernel_rfl
theorem c104_eq : cCF Tryz.prog 104 1 = some c104 := by kernel_rfl
theorem e104 : hasE Tryz.prog 104 = true := by kernel_rfl
theorem c105_eq : cCF Tryz.prog 105 1 = some c105 := by kernel_rfl
theorem e105 : hasE Tryz.prog 105 = true := by kernel_rfl
theorem c106_eq : cCF Tryz.prog 106 1 = some c106 := by kernel_rfl
theorem e106 : hasE Tryz.prog 106 = true := by kernel_rfl
theorem c108_eq : cCF Tryz.prog 108 1 = some c108 := by kernel_rfl
theorem e108 : hasE Tryz.prog 108 = true := by kernel_rfl
theorem c109_eq : cCF Tryz.prog 109 1 = some c109 := by kernel_rfl
theorem e109 : hasE Tryz.prog 109 = true := by kernel_rfl
theorem c110_eq : cCF Tryz.prog 110 1 = some c110 := by kernel_rfl
theorem e110 : hasE Tryz.prog 110 = true := by kernel_rfl
theorem c111_eq : cCF Tryz.prog 111 3 = some c111 := by kernel_rfl
theorem e111 : hasE Tryz.prog 111 = true := by kernel_rfl
theorem c112_eq : cCF Tryz.prog 112 3 = some c112 := by kernel_rfl
theorem e112 : hasE Tryz.prog 112 = true := by kernel_rfl
theorem c113_eq : cCF Tryz.prog 113 7 = some c113 := by kernel_rfl
theorem e113 : hasE Tryz.prog 113 = true := by kernel_rfl
theorem c114_eq : cCF Tryz.prog 114 1 = some c114 := by kernel_rfl
theorem e114 : hasE Tryz.prog 114 = true := by kernel_rfl
theorem c135_eq : cCF Tryz.prog 135 1 = some c135 := by kernel_rfl
theorem e135 : hasE Tryz.prog 135 = true := by kernel_rfl
theorem c136_eq : cCF Tryz.prog 136 1 = some c136 := by kernel_rfl
theorem e136 : hasE Tryz.prog 136 = true := by kernel_rfl
theorem c137_eq : cCF Tryz.prog 137 1 = some c137 := by kernel_rfl
theorem e137 : hasE Tryz.prog 137 = true := by kernel_rfl
theorem c138_eq : cCF Tryz.prog 138 4 = some c138 := by kernel_rfl
theorem e138 : hasE Tryz.prog 138 = true := by kernel_rfl
theorem c139_eq : cCF Tryz.prog 139 1 = some c139 := by kernel_rfl
theorem e139 : hasE Tryz.prog 139 = true := by kernel_rfl
theorem c155_eq : cCF Tryz.prog 155 1 = some c155 := by kernel_rfl
theorem e155 : hasE Tryz.prog 155 = true := by kernel_rfl
theorem c189_eq : cCF Tryz.prog 189 1 = some c189 := by kernel_rfl
theorem e189 : hasE Tryz.prog 189 = true := by kernel_rfl
theorem c406_eq : cCF Tryz.prog 406 1 = some c406 := by kernel_rfl
theorem e406 : hasE Tryz.prog 406 = true := by kernel_rfl
theorem c410_eq : cCF Tryz.prog 410 2 = some c410 := by kernel_rfl
theorem e410 : hasE Tryz.prog 410 = true := by kernel_rfl
theorem c422_eq : cCF Tryz.prog 422 1 = some c422 := by kernel_rfl
theorem e422 : hasE Tryz.prog 422 = true := by kernel_rfl
theorem c433_eq : cCF Tryz.prog 433 1 = some c433 := by kernel_rfl
theorem e433 : hasE Tryz.prog 433 = true := by kernel_rfl
theorem c462_eq : cCF Tryz.prog 462 1 = some c462 := by kernel_rfl
theorem e462 : hasE Tryz.prog 462 = true := by kernel_rfl
theorem c463_eq : cCF Tryz.prog 463 2 = some c463 := by kernel_rfl
theorem e463 : hasE Tryz.prog 463 = true := by kernel_rfl
end
end Go.Proofs.YtldmhpdjlgoenaaGreatDoor.BN
