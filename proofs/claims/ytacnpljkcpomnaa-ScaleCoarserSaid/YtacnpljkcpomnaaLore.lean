/-
What the interpreter is told of this program: slots that live at loops' heads; functions told by a contract; variables laid.
-/
import Derived.Test.YtacnpljkcpomnaaTypes
import Derived.Test.YtacnpljkcpomnaaEvBits
import Derived.Test.YtacnpljkcpomnaaExt
import Derived.Test.YtacnpljkcpomnaaProg
import Derived.KernelRfl
namespace Go.Proofs.Ytacnpljkcpomnaa
open Go Ev
set_option linter.all false
set_option linter.defProp false

def keepTab : List ((Nat × Nat) × List Nat) := [((3, 7), [2, 5, 6, 8]), ((3, 12), [2, 5, 6, 8, 9, 10, 11]), ((18, 15), [11, 12, 13, 14]), ((24, 6), [0, 1, 9, 10]), ((30, 5), [1, 2, 4, 38, 39]), ((33, 7), [6, 7, 8]), ((34, 2), [1, 3]), ((35, 3), [1, 3, 4]), ((35, 7), [3, 5]), ((37, 11), [0, 6, 9, 35, 36]), ((39, 5), [5, 6, 7, 8]), ((39, 14), [0, 5, 6, 10, 11]), ((40, 2), [1, 5, 6]), ((49, 3), [2, 3, 4, 5, 23, 24, 25]), ((49, 7), [2, 3, 4, 5, 6, 7, 8, 23, 24, 25, 31, 32, 33]), ((52, 8), [5, 6]), ((53, 2), [0, 2, 3]), ((53, 6), [0, 3, 4, 5]), ((55, 3), [0, 3, 4]), ((55, 7), [0, 3, 4, 5, 6]), ((62, 1), [0, 1, 4]), ((67, 6), [2, 3, 4, 5]), ((68, 4), [0, 1, 5, 6, 14, 15]), ((69, 4), [0, 1, 5, 6, 13, 14])]
def okfTab : List Nat := [3, 4, 5, 6, 7, 8, 9, 10, 11, 12, 13, 14, 15, 16, 17, 18, 19, 20, 21, 22, 23, 24, 26, 27, 28, 29, 30, 31, 32, 33, 34, 35, 36, 37, 38, 39, 40, 41, 43, 44, 45, 47, 48, 49, 50, 51, 52, 53, 54, 55, 56, 57, 58, 59, 60, 61, 62, 65, 66, 67, 68, 69]
def extOf : Nat → Option (List V → Option V)
  | 25 => some (outer .bits64)
  | 42 => some (outer .frombits64)
  | 46 => some (len64X)
  | 63 => some (mul64X)
  | 64 => some (outer .add64)
  | 70 => some (outer .sub64)
  | _ => none
def globOf : Nat → Option (List V)
  | _ => none
def shTab : List Nat := [40, 41]
noncomputable def lore : Lore := { P := Try.prog, G := globOf, imm := fun _ => [], keep := fun f k => ((keepTab.lookup (f, k))).getD [], ext := extOf, shared := fun f => shTab.contains f, okf := fun f => okfTab.contains f }
theorem lore_P : lore.toEnv.P = Try.prog := by rfl
theorem lore_imm (f : Nat) : lore.imm f = [] := by rfl
theorem lore_sh3 : lore.shared 3 = false := by rfl
theorem lore_sh4 : lore.shared 4 = false := by rfl
theorem lore_sh5 : lore.shared 5 = false := by rfl
theorem lore_sh6 : lore.shared 6 = false := by rfl
theorem lore_sh7 : lore.shared 7 = false := by rfl
theorem lore_sh8 : lore.shared 8 = false := by rfl
theorem lore_sh9 : lore.shared 9 = false := by rfl
theorem lore_sh10 : lore.shared 10 = false := by rfl
theorem lore_sh11 : lore.shared 11 = false := by rfl
theorem lore_sh12 : lore.shared 12 = false := by rfl
theorem lore_sh13 : lore.shared 13 = false := by rfl
theorem lore_sh14 : lore.shared 14 = false := by rfl
theorem lore_sh15 : lore.shared 15 = false := by rfl
theorem lore_sh16 : lore.shared 16 = false := by rfl
theorem lore_sh17 : lore.shared 17 = false := by rfl
theorem lore_sh18 : lore.shared 18 = false := by rfl
theorem lore_sh19 : lore.shared 19 = false := by rfl
theorem lore_sh20 : lore.shared 20 = false := by rfl
theorem lore_sh21 : lore.shared 21 = false := by rfl
theorem lore_sh22 : lore.shared 22 = false := by rfl
theorem lore_sh23 : lore.shared 23 = false := by rfl
theorem lore_sh24 : lore.shared 24 = false := by rfl
theorem lore_sh25 : lore.shared 25 = false := by rfl
theorem lore_sh26 : lore.shared 26 = false := by rfl
theorem lore_sh27 : lore.shared 27 = false := by rfl
theorem lore_sh28 : lore.shared 28 = false := by rfl
theorem lore_sh29 : lore.shared 29 = false := by rfl
theorem lore_sh30 : lore.shared 30 = false := by rfl
theorem lore_sh31 : lore.shared 31 = false := by rfl
theorem lore_sh32 : lore.shared 32 = false := by rfl
theorem lore_sh33 : lore.shared 33 = false := by rfl
theorem lore_sh34 : lore.shared 34 = false := by rfl
theorem lore_sh35 : lore.shared 35 = false := by rfl
theorem lore_sh36 : lore.shared 36 = false := by rfl
theorem lore_sh37 : lore.shared 37 = false := by rfl
theorem lore_sh38 : lore.shared 38 = false := by rfl
theorem lore_sh39 : lore.shared 39 = false := by rfl
theorem lore_sh40 : lore.shared 40 = true := by rfl
theorem lore_sh41 : lore.shared 41 = true := by rfl
theorem lore_sh42 : lore.shared 42 = false := by rfl
theorem lore_sh43 : lore.shared 43 = false := by rfl
theorem lore_sh44 : lore.shared 44 = false := by rfl
theorem lore_sh45 : lore.shared 45 = false := by rfl
theorem lore_sh46 : lore.shared 46 = false := by rfl
theorem lore_sh47 : lore.shared 47 = false := by rfl
theorem lore_sh48 : lore.shared 48 = false := by rfl
theorem lore_sh49 : lore.shared 49 = false := by rfl
theorem lore_sh50 : lore.shared 50 = false := by rfl
theorem lore_sh51 : lore.shared 51 = false := by rfl
theorem lore_sh52 : lore.shared 52 = false := by rfl
theorem lore_sh53 : lore.shared 53 = false := by rfl
theorem lore_sh54 : lore.shared 54 = false := by rfl
theorem lore_sh55 : lore.shared 55 = false := by rfl
theorem lore_sh56 : lore.shared 56 = false := by rfl
theorem lore_sh57 : lore.shared 57 = false := by rfl
theorem lore_sh58 : lore.shared 58 = false := by rfl
theorem lore_sh59 : lore.shared 59 = false := by rfl
theorem lore_sh60 : lore.shared 60 = false := by rfl
theorem lore_sh61 : lore.shared 61 = false := by rfl
theorem lore_sh62 : lore.shared 62 = false := by rfl
theorem lore_sh63 : lore.shared 63 = false := by rfl
theorem lore_sh64 : lore.shared 64 = false := by rfl
theorem lore_sh65 : lore.shared 65 = false := by rfl
theorem lore_sh66 : lore.shared 66 = false := by rfl
theorem lore_sh67 : lore.shared 67 = false := by rfl
theorem lore_sh68 : lore.shared 68 = false := by rfl
theorem lore_sh69 : lore.shared 69 = false := by rfl
theorem lore_sh70 : lore.shared 70 = false := by rfl
theorem lore_okf3 : lore.okf 3 = true := by rfl
theorem lore_ext3 : lore.ext 3 = none := by rfl
theorem lore_okf4 : lore.okf 4 = true := by rfl
theorem lore_ext4 : lore.ext 4 = none := by rfl
theorem lore_okf5 : lore.okf 5 = true := by rfl
theorem lore_ext5 : lore.ext 5 = none := by rfl
theorem lore_okf6 : lore.okf 6 = true := by rfl
theorem lore_ext6 : lore.ext 6 = none := by rfl
theorem lore_okf7 : lore.okf 7 = true := by rfl
theorem lore_ext7 : lore.ext 7 = none := by rfl
theorem lore_okf8 : lore.okf 8 = true := by rfl
theorem lore_ext8 : lore.ext 8 = none := by rfl
theorem lore_okf9 : lore.okf 9 = true := by rfl
theorem lore_ext9 : lore.ext 9 = none := by rfl
theorem lore_okf10 : lore.okf 10 = true := by rfl
theorem lore_ext10 : lore.ext 10 = none := by rfl
theorem lore_okf11 : lore.okf 11 = true := by rfl
theorem lore_ext11 : lore.ext 11 = none := by rfl
theorem lore_okf12 : lore.okf 12 = true := by rfl
theorem lore_ext12 : lore.ext 12 = none := by rfl
theorem lore_okf13 : lore.okf 13 = true := by rfl
theorem lore_ext13 : lore.ext 13 = none := by rfl
theorem lore_okf14 : lore.okf 14 = true := by rfl
theorem lore_ext14 : lore.ext 14 = none := by rfl
theorem lore_okf15 : lore.okf 15 = true := by rfl
theorem lore_ext15 : lore.ext 15 = none := by rfl
theorem lore_okf16 : lore.okf 16 = true := by rfl
theorem lore_ext16 : lore.ext 16 = none := by rfl
theorem lore_okf17 : lore.okf 17 = true := by rfl
theorem lore_ext17 : lore.ext 17 = none := by rfl
theorem lore_okf18 : lore.okf 18 = true := by rfl
theorem lore_ext18 : lore.ext 18 = none := by rfl
theorem lore_okf19 : lore.okf 19 = true := by rfl
theorem lore_ext19 : lore.ext 19 = none := by rfl
theorem lore_okf20 : lore.okf 20 = true := by rfl
theorem lore_ext20 : lore.ext 20 = none := by rfl
theorem lore_okf21 : lore.okf 21 = true := by rfl
theorem lore_ext21 : lore.ext 21 = none := by rfl
theorem lore_okf22 : lore.okf 22 = true := by rfl
theorem lore_ext22 : lore.ext 22 = none := by rfl
theorem lore_okf23 : lore.okf 23 = true := by rfl
theorem lore_ext23 : lore.ext 23 = none := by rfl
theorem lore_okf24 : lore.okf 24 = true := by rfl
theorem lore_ext24 : lore.ext 24 = none := by rfl
theorem lore_okf26 : lore.okf 26 = true := by rfl
theorem lore_ext26 : lore.ext 26 = none := by rfl
theorem lore_okf27 : lore.okf 27 = true := by rfl
theorem lore_ext27 : lore.ext 27 = none := by rfl
theorem lore_okf28 : lore.okf 28 = true := by rfl
theorem lore_ext28 : lore.ext 28 = none := by rfl
theorem lore_okf29 : lore.okf 29 = true := by rfl
theorem lore_ext29 : lore.ext 29 = none := by rfl
theorem lore_okf30 : lore.okf 30 = true := by rfl
theorem lore_ext30 : lore.ext 30 = none := by rfl
theorem lore_okf31 : lore.okf 31 = true := by rfl
theorem lore_ext31 : lore.ext 31 = none := by rfl
theorem lore_okf32 : lore.okf 32 = true := by rfl
theorem lore_ext32 : lore.ext 32 = none := by rfl
theorem lore_okf33 : lore.okf 33 = true := by rfl
theorem lore_ext33 : lore.ext 33 = none := by rfl
theorem lore_okf34 : lore.okf 34 = true := by rfl
theorem lore_ext34 : lore.ext 34 = none := by rfl
theorem lore_okf35 : lore.okf 35 = true := by rfl
theorem lore_ext35 : lore.ext 35 = none := by rfl
theorem lore_okf36 : lore.okf 36 = true := by rfl
theorem lore_ext36 : lore.ext 36 = none := by rfl
theorem lore_okf37 : lore.okf 37 = true := by rfl
theorem lore_ext37 : lore.ext 37 = none := by rfl
theorem lore_okf38 : lore.okf 38 = true := by rfl
theorem lore_ext38 : lore.ext 38 = none := by rfl
theorem lore_okf39 : lore.okf 39 = true := by rfl
theorem lore_ext39 : lore.ext 39 = none := by rfl
theorem lore_okf40 : lore.okf 40 = true := by rfl
theorem lore_ext40 : lore.ext 40 = none := by rfl
theorem lore_okf41 : lore.okf 41 = true := by rfl
theorem lore_ext41 : lore.ext 41 = none := by rfl
theorem lore_okf43 : lore.okf 43 = true := by rfl
theorem lore_ext43 : lore.ext 43 = none := by rfl
theorem lore_okf44 : lore.okf 44 = true := by rfl
theorem lore_ext44 : lore.ext 44 = none := by rfl
theorem lore_okf45 : lore.okf 45 = true := by rfl
theorem lore_ext45 : lore.ext 45 = none := by rfl
theorem lore_okf47 : lore.okf 47 = true := by rfl
theorem lore_ext47 : lore.ext 47 = none := by rfl
theorem lore_okf48 : lore.okf 48 = true := by rfl
theorem lore_ext48 : lore.ext 48 = none := by rfl
theorem lore_okf49 : lore.okf 49 = true := by rfl
theorem lore_ext49 : lore.ext 49 = none := by rfl
theorem lore_okf50 : lore.okf 50 = true := by rfl
theorem lore_ext50 : lore.ext 50 = none := by rfl
theorem lore_okf51 : lore.okf 51 = true := by rfl
theorem lore_ext51 : lore.ext 51 = none := by rfl
theorem lore_okf52 : lore.okf 52 = true := by rfl
theorem lore_ext52 : lore.ext 52 = none := by rfl
theorem lore_okf53 : lore.okf 53 = true := by rfl
theorem lore_ext53 : lore.ext 53 = none := by rfl
theorem lore_okf54 : lore.okf 54 = true := by rfl
theorem lore_ext54 : lore.ext 54 = none := by rfl
theorem lore_okf55 : lore.okf 55 = true := by rfl
theorem lore_ext55 : lore.ext 55 = none := by rfl
theorem lore_okf56 : lore.okf 56 = true := by rfl
theorem lore_ext56 : lore.ext 56 = none := by rfl
theorem lore_okf57 : lore.okf 57 = true := by rfl
theorem lore_ext57 : lore.ext 57 = none := by rfl
theorem lore_okf58 : lore.okf 58 = true := by rfl
theorem lore_ext58 : lore.ext 58 = none := by rfl
theorem lore_okf59 : lore.okf 59 = true := by rfl
theorem lore_ext59 : lore.ext 59 = none := by rfl
theorem lore_okf60 : lore.okf 60 = true := by rfl
theorem lore_ext60 : lore.ext 60 = none := by rfl
theorem lore_okf61 : lore.okf 61 = true := by rfl
theorem lore_ext61 : lore.ext 61 = none := by rfl
theorem lore_okf62 : lore.okf 62 = true := by rfl
theorem lore_ext62 : lore.ext 62 = none := by rfl
theorem lore_okf65 : lore.okf 65 = true := by rfl
theorem lore_ext65 : lore.ext 65 = none := by rfl
theorem lore_okf66 : lore.okf 66 = true := by rfl
theorem lore_ext66 : lore.ext 66 = none := by rfl
theorem lore_okf67 : lore.okf 67 = true := by rfl
theorem lore_ext67 : lore.ext 67 = none := by rfl
theorem lore_okf68 : lore.okf 68 = true := by rfl
theorem lore_ext68 : lore.ext 68 = none := by rfl
theorem lore_okf69 : lore.okf 69 = true := by rfl
theorem lore_ext69 : lore.ext 69 = none := by rfl
theorem res3 : Try.f3.results.toList = [.tmp 4] := by rfl
theorem res4 : Try.f4.results.toList = [.tmp 6] := by rfl
theorem res5 : Try.f5.results.toList = [.tmp 8] := by rfl
theorem res6 : Try.f6.results.toList = [.tmp 6] := by rfl
theorem res7 : Try.f7.results.toList = [.tmp 6] := by rfl
theorem res8 : Try.f8.results.toList = [.tmp 4] := by rfl
theorem res9 : Try.f9.results.toList = [.tmp 4] := by rfl
theorem res10 : Try.f10.results.toList = [.tmp 0] := by rfl
theorem res11 : Try.f11.results.toList = [.tmp 4, .tmp 5, .tmp 6] := by rfl
theorem res12 : Try.f12.results.toList = [.tmp 2] := by rfl
theorem res13 : Try.f13.results.toList = [.tmp 2, .tmp 3] := by rfl
theorem res14 : Try.f14.results.toList = [.tmp 2] := by rfl
theorem res15 : Try.f15.results.toList = [.tmp 2] := by rfl
theorem res16 : Try.f16.results.toList = [.tmp 4, .tmp 5] := by rfl
theorem res17 : Try.f17.results.toList = [.tmp 4, .tmp 5] := by rfl
theorem res18 : Try.f18.results.toList = [.tmp 4, .tmp 5, .tmp 6] := by rfl
theorem res19 : Try.f19.results.toList = [.cell 4 39, .tmp 5] := by rfl
theorem res20 : Try.f20.results.toList = [.cell 4 39, .tmp 5] := by rfl
theorem res21 : Try.f21.results.toList = [.tmp 2, .tmp 3, .tmp 4] := by rfl
theorem res22 : Try.f22.results.toList = [.tmp 2, .tmp 3, .tmp 4] := by rfl
theorem res23 : Try.f23.results.toList = [.tmp 4, .tmp 5] := by rfl
theorem res24 : Try.f24.results.toList = [.tmp 4, .tmp 5] := by rfl
theorem res26 : Try.f26.results.toList = [.tmp 2] := by rfl
theorem res27 : Try.f27.results.toList = [.tmp 2] := by rfl
theorem res28 : Try.f28.results.toList = [.tmp 2] := by rfl
theorem res29 : Try.f29.results.toList = [.tmp 4] := by rfl
theorem res30 : Try.f30.results.toList = [.cell 2 56, .tmp 3] := by rfl
theorem res31 : Try.f31.results.toList = [.tmp 4] := by rfl
theorem res32 : Try.f32.results.toList = [.tmp 4, .tmp 5] := by rfl
theorem res33 : Try.f33.results.toList = [.tmp 4] := by rfl
theorem res34 : Try.f34.results.toList = [.tmp 2] := by rfl
theorem res35 : Try.f35.results.toList = [.tmp 2] := by rfl
theorem res36 : Try.f36.results.toList = [.tmp 2] := by rfl
theorem res37 : Try.f37.results.toList = [.tmp 4] := by rfl
theorem res38 : Try.f38.results.toList = [.tmp 2] := by rfl
theorem res39 : Try.f39.results.toList = [.tmp 4] := by rfl
theorem res40 : Try.f40.results.toList = [.tmp 4] := by rfl
theorem res41 : Try.f41.results.toList = [.tmp 4] := by rfl
theorem res43 : Try.f43.results.toList = [.tmp 2] := by rfl
theorem res44 : Try.f44.results.toList = [.tmp 4] := by rfl
theorem res45 : Try.f45.results.toList = [.tmp 4] := by rfl
theorem res47 : Try.f47.results.toList = [.tmp 2, .tmp 3] := by rfl
theorem res48 : Try.f48.results.toList = [.cell 2 75] := by rfl
theorem res49 : Try.f49.results.toList = [.cell 4 75] := by rfl
theorem res50 : Try.f50.results.toList = [.cell 4 75] := by rfl
theorem res51 : Try.f51.results.toList = [.tmp 2] := by rfl
theorem res52 : Try.f52.results.toList = [.tmp 2, .tmp 3] := by rfl
theorem res53 : Try.f53.results.toList = [.tmp 2] := by rfl
theorem res54 : Try.f54.results.toList = [.tmp 4] := by rfl
theorem res55 : Try.f55.results.toList = [.tmp 2] := by rfl
theorem res56 : Try.f56.results.toList = [.tmp 4] := by rfl
theorem res57 : Try.f57.results.toList = [.tmp 2] := by rfl
theorem res58 : Try.f58.results.toList = [.tmp 2, .tmp 3] := by rfl
theorem res59 : Try.f59.results.toList = [.tmp 4] := by rfl
theorem res60 : Try.f60.results.toList = [.tmp 2, .tmp 3] := by rfl
theorem res61 : Try.f61.results.toList = [.tmp 2, .tmp 3] := by rfl
theorem res62 : Try.f62.results.toList = [.cell 4 75] := by rfl
theorem res65 : Try.f65.results.toList = [.cell 4 75] := by rfl
theorem res66 : Try.f66.results.toList = [.cell 2 75] := by rfl
theorem res67 : Try.f67.results.toList = [.tmp 4] := by rfl
theorem res68 : Try.f68.results.toList = [.tmp 4] := by rfl
theorem res69 : Try.f69.results.toList = [.tmp 4] := by rfl
theorem ntm3 : Try.f3.ntmps = 79 := by rfl
theorem ntm4 : Try.f4.ntmps = 111 := by rfl
theorem ntm5 : Try.f5.ntmps = 187 := by rfl
theorem ntm6 : Try.f6.ntmps = 94 := by rfl
theorem ntm7 : Try.f7.ntmps = 161 := by rfl
theorem ntm8 : Try.f8.ntmps = 63 := by rfl
theorem ntm9 : Try.f9.ntmps = 114 := by rfl
theorem ntm10 : Try.f10.ntmps = 56 := by rfl
theorem ntm11 : Try.f11.ntmps = 36 := by rfl
theorem ntm12 : Try.f12.ntmps = 34 := by rfl
theorem ntm13 : Try.f13.ntmps = 18 := by rfl
theorem ntm14 : Try.f14.ntmps = 12 := by rfl
theorem ntm15 : Try.f15.ntmps = 8 := by rfl
theorem ntm16 : Try.f16.ntmps = 26 := by rfl
theorem ntm17 : Try.f17.ntmps = 22 := by rfl
theorem ntm18 : Try.f18.ntmps = 77 := by rfl
theorem ntm19 : Try.f19.ntmps = 31 := by rfl
theorem ntm20 : Try.f20.ntmps = 36 := by rfl
theorem ntm21 : Try.f21.ntmps = 12 := by rfl
theorem ntm22 : Try.f22.ntmps = 14 := by rfl
theorem ntm23 : Try.f23.ntmps = 38 := by rfl
theorem ntm24 : Try.f24.ntmps = 53 := by rfl
theorem ntm26 : Try.f26.ntmps = 8 := by rfl
theorem ntm27 : Try.f27.ntmps = 12 := by rfl
theorem ntm28 : Try.f28.ntmps = 7 := by rfl
theorem ntm29 : Try.f29.ntmps = 11 := by rfl
theorem ntm30 : Try.f30.ntmps = 53 := by rfl
theorem ntm31 : Try.f31.ntmps = 40 := by rfl
theorem ntm32 : Try.f32.ntmps = 49 := by rfl
theorem ntm33 : Try.f33.ntmps = 39 := by rfl
theorem ntm34 : Try.f34.ntmps = 12 := by rfl
theorem ntm35 : Try.f35.ntmps = 20 := by rfl
theorem ntm36 : Try.f36.ntmps = 9 := by rfl
theorem ntm37 : Try.f37.ntmps = 54 := by rfl
theorem ntm38 : Try.f38.ntmps = 9 := by rfl
theorem ntm39 : Try.f39.ntmps = 63 := by rfl
theorem ntm40 : Try.f40.ntmps = 26 := by rfl
theorem ntm41 : Try.f41.ntmps = 13 := by rfl
theorem ntm43 : Try.f43.ntmps = 8 := by rfl
theorem ntm44 : Try.f44.ntmps = 6 := by rfl
theorem ntm45 : Try.f45.ntmps = 63 := by rfl
theorem ntm47 : Try.f47.ntmps = 12 := by rfl
theorem ntm48 : Try.f48.ntmps = 6 := by rfl
theorem ntm49 : Try.f49.ntmps = 90 := by rfl
theorem ntm50 : Try.f50.ntmps = 9 := by rfl
theorem ntm51 : Try.f51.ntmps = 19 := by rfl
theorem ntm52 : Try.f52.ntmps = 30 := by rfl
theorem ntm53 : Try.f53.ntmps = 29 := by rfl
theorem ntm54 : Try.f54.ntmps = 17 := by rfl
theorem ntm55 : Try.f55.ntmps = 63 := by rfl
theorem ntm56 : Try.f56.ntmps = 15 := by rfl
theorem ntm57 : Try.f57.ntmps = 6 := by rfl
theorem ntm58 : Try.f58.ntmps = 10 := by rfl
theorem ntm59 : Try.f59.ntmps = 13 := by rfl
theorem ntm60 : Try.f60.ntmps = 5 := by rfl
theorem ntm61 : Try.f61.ntmps = 38 := by rfl
theorem ntm62 : Try.f62.ntmps = 30 := by rfl
theorem ntm65 : Try.f65.ntmps = 34 := by rfl
theorem ntm66 : Try.f66.ntmps = 9 := by rfl
theorem ntm67 : Try.f67.ntmps = 52 := by rfl
theorem ntm68 : Try.f68.ntmps = 46 := by rfl
theorem ntm69 : Try.f69.ntmps = 40 := by rfl
theorem lore_keep3_7 : lore.keep 3 7 = [2, 5, 6, 8] := by rfl
theorem lore_keep3_12 : lore.keep 3 12 = [2, 5, 6, 8, 9, 10, 11] := by rfl
theorem lore_keep18_15 : lore.keep 18 15 = [11, 12, 13, 14] := by rfl
theorem lore_keep24_6 : lore.keep 24 6 = [0, 1, 9, 10] := by rfl
theorem lore_keep30_5 : lore.keep 30 5 = [1, 2, 4, 38, 39] := by rfl
theorem lore_keep33_7 : lore.keep 33 7 = [6, 7, 8] := by rfl
theorem lore_keep34_2 : lore.keep 34 2 = [1, 3] := by rfl
theorem lore_keep35_3 : lore.keep 35 3 = [1, 3, 4] := by rfl
theorem lore_keep35_7 : lore.keep 35 7 = [3, 5] := by rfl
theorem lore_keep37_11 : lore.keep 37 11 = [0, 6, 9, 35, 36] := by rfl
theorem lore_keep39_5 : lore.keep 39 5 = [5, 6, 7, 8] := by rfl
theorem lore_keep39_14 : lore.keep 39 14 = [0, 5, 6, 10, 11] := by rfl
theorem lore_keep40_2 : lore.keep 40 2 = [1, 5, 6] := by rfl
theorem lore_keep49_3 : lore.keep 49 3 = [2, 3, 4, 5, 23, 24, 25] := by rfl
theorem lore_keep49_7 : lore.keep 49 7 = [2, 3, 4, 5, 6, 7, 8, 23, 24, 25, 31, 32, 33] := by rfl
theorem lore_keep52_8 : lore.keep 52 8 = [5, 6] := by rfl
theorem lore_keep53_2 : lore.keep 53 2 = [0, 2, 3] := by rfl
theorem lore_keep53_6 : lore.keep 53 6 = [0, 3, 4, 5] := by rfl
theorem lore_keep55_3 : lore.keep 55 3 = [0, 3, 4] := by rfl
theorem lore_keep55_7 : lore.keep 55 7 = [0, 3, 4, 5, 6] := by rfl
theorem lore_keep62_1 : lore.keep 62 1 = [0, 1, 4] := by rfl
theorem lore_keep67_6 : lore.keep 67 6 = [2, 3, 4, 5] := by rfl
theorem lore_keep68_4 : lore.keep 68 4 = [0, 1, 5, 6, 14, 15] := by rfl
theorem lore_keep69_4 : lore.keep 69 4 = [0, 1, 5, 6, 13, 14] := by rfl
set_option maxRecDepth 100000 in
theorem okf_all : (okfTab.all fun g => match Try.prog.funcs[g]? with | some fn => !(fn.name == "runtime.NumGoroutine") && (match fn.body with | some b => codeOk lore.toEnv g b | none => true) | none => true) = true := by kernel_rfl
theorem follows_mixed : Try.prog.follows .mixedOrders = true := by kernel_rfl
theorem okf_fns (g : Nat) (fn : Func) (b : Code) (h : lore.okf g = true) (hf : lore.P.funcs[g]? = some fn) (hb : fn.body = some b) : (fn.name == "runtime.NumGoroutine") = false ∧ codeOk lore.toEnv g b = true := by
  have := List.all_eq_true.1 okf_all g (by simpa [lore] using h)
  rw [show Try.prog.funcs[g]? = some fn from hf] at this
  simp only [hb, Bool.and_eq_true, Bool.not_eq_true'] at this
  exact this
def lors := (And.intro (And.intro (And.intro (And.intro (And.intro (And.intro (And.intro @lore_P @lore_imm) (And.intro @res3 @res4)) (And.intro (And.intro @res5 @res6) (And.intro @res7 (And.intro @res8 @res9)))) (And.intro (And.intro (And.intro @res10 @res11) (And.intro @res12 @res13)) (And.intro (And.intro @res14 @res15) (And.intro @res16 (And.intro @res17 @res18))))) (And.intro (And.intro (And.intro (And.intro @res19 @res20) (And.intro @res21 @res22)) (And.intro (And.intro @res23 @res24) (And.intro @res26 (And.intro @res27 @res28)))) (And.intro (And.intro (And.intro @res29 @res30) (And.intro @res31 (And.intro @res32 @res33))) (And.intro (And.intro @res34 @res35) (And.intro @res36 (And.intro @res37 @res38)))))) (And.intro (And.intro (And.intro (And.intro (And.intro @res39 @res40) (And.intro @res41 @res43)) (And.intro (And.intro @res44 @res45) (And.intro @res47 (And.intro @res48 @res49)))) (And.intro (And.intro (And.intro @res50 @res51) (And.intro @res52 (And.intro @res53 @res54))) (And.intro (And.intro @res55 @res56) (And.intro @res57 (And.intro @res58 @res59))))) (And.intro (And.intro (And.intro (And.intro @res60 @res61) (And.intro @res62 @res65)) (And.intro (And.intro @res66 @res67) (And.intro @res68 (And.intro @res69 @ntm3)))) (And.intro (And.intro (And.intro @ntm4 @ntm5) (And.intro @ntm6 (And.intro @ntm7 @ntm8))) (And.intro (And.intro @ntm9 @ntm10) (And.intro @ntm11 (And.intro @ntm12 @ntm13))))))) (And.intro (And.intro (And.intro (And.intro (And.intro (And.intro @ntm14 @ntm15) (And.intro @ntm16 @ntm17)) (And.intro (And.intro @ntm18 @ntm19) (And.intro @ntm20 (And.intro @ntm21 @ntm22)))) (And.intro (And.intro (And.intro @ntm23 @ntm24) (And.intro @ntm26 @ntm27)) (And.intro (And.intro @ntm28 @ntm29) (And.intro @ntm30 (And.intro @ntm31 @ntm32))))) (And.intro (And.intro (And.intro (And.intro @ntm33 @ntm34) (And.intro @ntm35 @ntm36)) (And.intro (And.intro @ntm37 @ntm38) (And.intro @ntm39 (And.intro @ntm40 @ntm41)))) (And.intro (And.intro (And.intro @ntm43 @ntm44) (And.intro @ntm45 (And.intro @ntm47 @ntm48))) (And.intro (And.intro @ntm49 @ntm50) (And.intro @ntm51 (And.intro @ntm52 @ntm53)))))) (And.intro (And.intro (And.intro (And.intro (And.intro @ntm54 @ntm55) (And.intro @ntm56 @ntm57)) (And.intro (And.intro @ntm58 @ntm59) (And.intro @ntm60 (And.intro @ntm61 @ntm62)))) (And.intro (And.intro (And.intro @ntm65 @ntm66) (And.intro @ntm67 (And.intro @ntm68 @ntm69))) (And.intro (And.intro @lore_keep3_7 @lore_keep3_12) (And.intro @lore_keep18_15 (And.intro @lore_keep24_6 @lore_keep30_5))))) (And.intro (And.intro (And.intro (And.intro @lore_keep33_7 @lore_keep34_2) (And.intro @lore_keep35_3 @lore_keep35_7)) (And.intro (And.intro @lore_keep37_11 @lore_keep39_5) (And.intro @lore_keep39_14 (And.intro @lore_keep40_2 @lore_keep49_3)))) (And.intro (And.intro (And.intro @lore_keep49_7 @lore_keep52_8) (And.intro @lore_keep53_2 (And.intro @lore_keep53_6 @lore_keep55_3))) (And.intro (And.intro @lore_keep55_7 @lore_keep62_1) (And.intro @lore_keep67_6 (And.intro @lore_keep68_4 @lore_keep69_4))))))))
end Go.Proofs.Ytacnpljkcpomnaa
