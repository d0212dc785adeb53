/-
What the interpreter is told of this program: slots that live at loops' heads; functions told by a contract; variables laid.
-/
import Derived.Test.YtmjdcoacmmmhnaaDoorTypes
import Derived.Test.YtmjdcoacmmmhnaaDoorEvBits
import Derived.Test.YtmjdcoacmmmhnaaDoorExt
import Derived.Test.YtmjdcoacmmmhnaaDoorProg
import Derived.KernelRfl
namespace Go.Proofs.YtmjdcoacmmmhnaaDoor
open Go Ev
set_option linter.all false
set_option linter.defProp false

def keepTab : List ((Nat × Nat) × List Nat) := [((5, 7), [0, 1, 2, 3, 9, 10]), ((9, 7), [7, 8, 9]), ((9, 11), [7, 8, 9, 10, 11]), ((11, 8), [0, 4, 5, 6, 7, 8, 9]), ((12, 5), [0, 4, 24, 25, 26]), ((12, 14), [0, 4, 7, 8, 9, 10, 11, 12, 13]), ((15, 4), [0, 1, 4, 12, 13]), ((16, 5), [0, 3, 4, 5, 11, 12, 13]), ((21, 6), [6, 18, 19, 20]), ((23, 5), [0, 2, 3, 4, 5, 13, 14, 15]), ((25, 4), [0, 2, 3, 4]), ((26, 3), [0, 2, 3, 4]), ((27, 3), [0, 5, 6, 7]), ((29, 4), [0, 2, 9, 10]), ((32, 3), [0, 5, 6]), ((33, 3), [0, 2, 3, 4]), ((34, 3), [0, 1, 5, 6]), ((36, 2), [0, 2, 5, 6, 7]), ((37, 4), [0, 1, 4, 12, 13]), ((39, 3), [3, 6, 7, 8]), ((49, 2), [0, 4, 5]), ((49, 4), [0, 4, 5]), ((51, 1), [0, 1]), ((52, 1), [0, 1, 6]), ((54, 3), [0, 1, 11, 12])]
def okfTab : List Nat := [3, 4, 5, 8, 9, 10, 11, 12, 13, 14, 15, 16, 17, 18, 19, 20, 21, 23, 24, 25, 26, 27, 28, 29, 31, 32, 33, 34, 35, 36, 37, 38, 39, 40, 41, 42, 43, 44, 47, 49, 50, 51, 52, 53, 54, 55, 56]
def extOf : Nat → Option (List V → Option V)
  | 30 => some (outer .frombits64)
  | 48 => some (outer .bits64)
  | 57 => some (len64X)
  | _ => none
def globOf : Nat → Option (List V)
  | 0 => some ([.int .u64 2, .int .i64 2, .int .i64 14, .int .u64 6, .int .i64 3, .int .i64 17, .int .u64 14, .int .i64 4, .int .i64 20])
  | 2 => some ([.int .u8 0, .int .u8 1, .int .u8 56, .int .u8 2, .int .u8 57, .int .u8 49, .int .u8 28, .int .u8 3, .int .u8 61, .int .u8 58, .int .u8 42, .int .u8 50, .int .u8 38, .int .u8 29, .int .u8 17, .int .u8 4, .int .u8 62, .int .u8 47, .int .u8 59, .int .u8 36, .int .u8 45, .int .u8 43, .int .u8 51, .int .u8 22, .int .u8 53, .int .u8 39, .int .u8 33, .int .u8 30, .int .u8 24, .int .u8 18, .int .u8 12, .int .u8 5, .int .u8 63, .int .u8 55, .int .u8 48, .int .u8 27, .int .u8 60, .int .u8 41, .int .u8 37, .int .u8 16, .int .u8 46, .int .u8 35, .int .u8 44, .int .u8 21, .int .u8 52, .int .u8 32, .int .u8 23, .int .u8 11, .int .u8 54, .int .u8 26, .int .u8 40, .int .u8 15, .int .u8 34, .int .u8 20, .int .u8 31, .int .u8 10, .int .u8 25, .int .u8 14, .int .u8 19, .int .u8 9, .int .u8 13, .int .u8 8, .int .u8 7, .int .u8 6])
  | _ => none
def shTab : List Nat := [17, 18, 19, 20, 21, 23, 24, 26, 27, 28, 29, 33, 34, 35, 36, 39, 44, 51, 52, 53, 54]
noncomputable def lore : Lore := { P := Tryd.prog, G := globOf, imm := fun _ => [], keep := fun f k => ((keepTab.lookup (f, k))).getD [], ext := extOf, shared := fun f => shTab.contains f, okf := fun f => okfTab.contains f }
theorem lore_P : lore.toEnv.P = Tryd.prog := by rfl
theorem lore_imm (f : Nat) : lore.imm f = [] := by rfl
theorem lore_sh3 : lore.shared 3 = false := by rfl
theorem lore_sh4 : lore.shared 4 = false := by rfl
theorem lore_sh5 : lore.shared 5 = false := by rfl
theorem lore_sh8 : lore.shared 8 = false := by rfl
theorem lore_sh9 : lore.shared 9 = false := by rfl
theorem lore_sh10 : lore.shared 10 = false := by rfl
theorem lore_sh11 : lore.shared 11 = false := by rfl
theorem lore_sh12 : lore.shared 12 = false := by rfl
theorem lore_sh13 : lore.shared 13 = false := by rfl
theorem lore_sh14 : lore.shared 14 = false := by rfl
theorem lore_sh15 : lore.shared 15 = false := by rfl
theorem lore_sh16 : lore.shared 16 = false := by rfl
theorem lore_sh17 : lore.shared 17 = true := by rfl
theorem lore_sh18 : lore.shared 18 = true := by rfl
theorem lore_sh19 : lore.shared 19 = true := by rfl
theorem lore_sh20 : lore.shared 20 = true := by rfl
theorem lore_sh21 : lore.shared 21 = true := by rfl
theorem lore_sh23 : lore.shared 23 = true := by rfl
theorem lore_sh24 : lore.shared 24 = true := by rfl
theorem lore_sh25 : lore.shared 25 = false := by rfl
theorem lore_sh26 : lore.shared 26 = true := by rfl
theorem lore_sh27 : lore.shared 27 = true := by rfl
theorem lore_sh28 : lore.shared 28 = true := by rfl
theorem lore_sh29 : lore.shared 29 = true := by rfl
theorem lore_sh30 : lore.shared 30 = false := by rfl
theorem lore_sh31 : lore.shared 31 = false := by rfl
theorem lore_sh32 : lore.shared 32 = false := by rfl
theorem lore_sh33 : lore.shared 33 = true := by rfl
theorem lore_sh34 : lore.shared 34 = true := by rfl
theorem lore_sh35 : lore.shared 35 = true := by rfl
theorem lore_sh36 : lore.shared 36 = true := by rfl
theorem lore_sh37 : lore.shared 37 = false := by rfl
theorem lore_sh38 : lore.shared 38 = false := by rfl
theorem lore_sh39 : lore.shared 39 = true := by rfl
theorem lore_sh40 : lore.shared 40 = false := by rfl
theorem lore_sh41 : lore.shared 41 = false := by rfl
theorem lore_sh42 : lore.shared 42 = false := by rfl
theorem lore_sh43 : lore.shared 43 = false := by rfl
theorem lore_sh44 : lore.shared 44 = true := by rfl
theorem lore_sh47 : lore.shared 47 = false := by rfl
theorem lore_sh48 : lore.shared 48 = false := by rfl
theorem lore_sh49 : lore.shared 49 = false := by rfl
theorem lore_sh50 : lore.shared 50 = false := by rfl
theorem lore_sh51 : lore.shared 51 = true := by rfl
theorem lore_sh52 : lore.shared 52 = true := by rfl
theorem lore_sh53 : lore.shared 53 = true := by rfl
theorem lore_sh54 : lore.shared 54 = true := by rfl
theorem lore_sh55 : lore.shared 55 = false := by rfl
theorem lore_sh56 : lore.shared 56 = false := by rfl
theorem lore_sh57 : lore.shared 57 = false := by rfl
theorem lore_okf3 : lore.okf 3 = true := by rfl
theorem lore_ext3 : lore.ext 3 = none := by rfl
theorem lore_okf4 : lore.okf 4 = true := by rfl
theorem lore_ext4 : lore.ext 4 = none := by rfl
theorem lore_okf5 : lore.okf 5 = true := by rfl
theorem lore_ext5 : lore.ext 5 = none := by rfl
theorem lore_okf8 : lore.okf 8 = true := by rfl
theorem lore_ext8 : lore.ext 8 = none := by rfl
theorem lore_okf9 : lore.okf 9 = true := by rfl
theorem lore_ext9 : lore.ext 9 = none := by rfl
theorem lore_okf10 : lore.okf 10 = true := by rfl
theorem lore_ext10 : lore.ext 10 = none := by rfl
theorem lore_okf11 : lore.okf 11 = true := by rfl
theorem lore_ext11 : lore.ext 11 = none := by rfl
theorem lore_okf12 : lore.okf 12 = true := by rfl
theorem lore_ext12 : lore.ext 12 = none := by rfl
theorem lore_okf13 : lore.okf 13 = true := by rfl
theorem lore_ext13 : lore.ext 13 = none := by rfl
theorem lore_okf14 : lore.okf 14 = true := by rfl
theorem lore_ext14 : lore.ext 14 = none := by rfl
theorem lore_okf15 : lore.okf 15 = true := by rfl
theorem lore_ext15 : lore.ext 15 = none := by rfl
theorem lore_okf16 : lore.okf 16 = true := by rfl
theorem lore_ext16 : lore.ext 16 = none := by rfl
theorem lore_okf17 : lore.okf 17 = true := by rfl
theorem lore_ext17 : lore.ext 17 = none := by rfl
theorem lore_okf18 : lore.okf 18 = true := by rfl
theorem lore_ext18 : lore.ext 18 = none := by rfl
theorem lore_okf19 : lore.okf 19 = true := by rfl
theorem lore_ext19 : lore.ext 19 = none := by rfl
theorem lore_okf20 : lore.okf 20 = true := by rfl
theorem lore_ext20 : lore.ext 20 = none := by rfl
theorem lore_okf21 : lore.okf 21 = true := by rfl
theorem lore_ext21 : lore.ext 21 = none := by rfl
theorem lore_okf23 : lore.okf 23 = true := by rfl
theorem lore_ext23 : lore.ext 23 = none := by rfl
theorem lore_okf24 : lore.okf 24 = true := by rfl
theorem lore_ext24 : lore.ext 24 = none := by rfl
theorem lore_okf25 : lore.okf 25 = true := by rfl
theorem lore_ext25 : lore.ext 25 = none := by rfl
theorem lore_okf26 : lore.okf 26 = true := by rfl
theorem lore_ext26 : lore.ext 26 = none := by rfl
theorem lore_okf27 : lore.okf 27 = true := by rfl
theorem lore_ext27 : lore.ext 27 = none := by rfl
theorem lore_okf28 : lore.okf 28 = true := by rfl
theorem lore_ext28 : lore.ext 28 = none := by rfl
theorem lore_okf29 : lore.okf 29 = true := by rfl
theorem lore_ext29 : lore.ext 29 = none := by rfl
theorem lore_okf31 : lore.okf 31 = true := by rfl
theorem lore_ext31 : lore.ext 31 = none := by rfl
theorem lore_okf32 : lore.okf 32 = true := by rfl
theorem lore_ext32 : lore.ext 32 = none := by rfl
theorem lore_okf33 : lore.okf 33 = true := by rfl
theorem lore_ext33 : lore.ext 33 = none := by rfl
theorem lore_okf34 : lore.okf 34 = true := by rfl
theorem lore_ext34 : lore.ext 34 = none := by rfl
theorem lore_okf35 : lore.okf 35 = true := by rfl
theorem lore_ext35 : lore.ext 35 = none := by rfl
theorem lore_okf36 : lore.okf 36 = true := by rfl
theorem lore_ext36 : lore.ext 36 = none := by rfl
theorem lore_okf37 : lore.okf 37 = true := by rfl
theorem lore_ext37 : lore.ext 37 = none := by rfl
theorem lore_okf38 : lore.okf 38 = true := by rfl
theorem lore_ext38 : lore.ext 38 = none := by rfl
theorem lore_okf39 : lore.okf 39 = true := by rfl
theorem lore_ext39 : lore.ext 39 = none := by rfl
theorem lore_okf40 : lore.okf 40 = true := by rfl
theorem lore_ext40 : lore.ext 40 = none := by rfl
theorem lore_okf41 : lore.okf 41 = true := by rfl
theorem lore_ext41 : lore.ext 41 = none := by rfl
theorem lore_okf42 : lore.okf 42 = true := by rfl
theorem lore_ext42 : lore.ext 42 = none := by rfl
theorem lore_okf43 : lore.okf 43 = true := by rfl
theorem lore_ext43 : lore.ext 43 = none := by rfl
theorem lore_okf44 : lore.okf 44 = true := by rfl
theorem lore_ext44 : lore.ext 44 = none := by rfl
theorem lore_okf47 : lore.okf 47 = true := by rfl
theorem lore_ext47 : lore.ext 47 = none := by rfl
theorem lore_okf49 : lore.okf 49 = true := by rfl
theorem lore_ext49 : lore.ext 49 = none := by rfl
theorem lore_okf50 : lore.okf 50 = true := by rfl
theorem lore_ext50 : lore.ext 50 = none := by rfl
theorem lore_okf51 : lore.okf 51 = true := by rfl
theorem lore_ext51 : lore.ext 51 = none := by rfl
theorem lore_okf52 : lore.okf 52 = true := by rfl
theorem lore_ext52 : lore.ext 52 = none := by rfl
theorem lore_okf53 : lore.okf 53 = true := by rfl
theorem lore_ext53 : lore.ext 53 = none := by rfl
theorem lore_okf54 : lore.okf 54 = true := by rfl
theorem lore_ext54 : lore.ext 54 = none := by rfl
theorem lore_okf55 : lore.okf 55 = true := by rfl
theorem lore_ext55 : lore.ext 55 = none := by rfl
theorem lore_okf56 : lore.okf 56 = true := by rfl
theorem lore_ext56 : lore.ext 56 = none := by rfl
theorem res3 : Tryd.f3.results.toList = [.tmp 4] := by rfl
theorem res4 : Tryd.f4.results.toList = [.tmp 4] := by rfl
theorem res5 : Tryd.f5.results.toList = [.tmp 8] := by rfl
theorem res8 : Tryd.f8.results.toList = [.tmp 2, .tmp 3, .tmp 4] := by rfl
theorem res9 : Tryd.f9.results.toList = [.tmp 2, .tmp 3, .tmp 4] := by rfl
theorem res10 : Tryd.f10.results.toList = [.tmp 2, .tmp 3] := by rfl
theorem res11 : Tryd.f11.results.toList = [.tmp 2, .tmp 3] := by rfl
theorem res12 : Tryd.f12.results.toList = [.tmp 2, .tmp 3] := by rfl
theorem res13 : Tryd.f13.results.toList = [.tmp 0] := by rfl
theorem res14 : Tryd.f14.results.toList = [.tmp 4] := by rfl
theorem res15 : Tryd.f15.results.toList = [.tmp 4] := by rfl
theorem res16 : Tryd.f16.results.toList = [.tmp 2] := by rfl
theorem res17 : Tryd.f17.results.toList = [.tmp 0] := by rfl
theorem res18 : Tryd.f18.results.toList = [.tmp 4] := by rfl
theorem res19 : Tryd.f19.results.toList = [.tmp 2] := by rfl
theorem res20 : Tryd.f20.results.toList = [.tmp 2] := by rfl
theorem res21 : Tryd.f21.results.toList = [.tmp 2, .tmp 3] := by rfl
theorem res23 : Tryd.f23.results.toList = [.tmp 2, .tmp 3, .tmp 4] := by rfl
theorem res24 : Tryd.f24.results.toList = [.tmp 2] := by rfl
theorem res25 : Tryd.f25.results.toList = [.tmp 2, .tmp 3] := by rfl
theorem res26 : Tryd.f26.results.toList = [.tmp 2] := by rfl
theorem res27 : Tryd.f27.results.toList = [.tmp 4] := by rfl
theorem res28 : Tryd.f28.results.toList = [.tmp 2] := by rfl
theorem res29 : Tryd.f29.results.toList = [.tmp 2] := by rfl
theorem res31 : Tryd.f31.results.toList = [.tmp 4] := by rfl
theorem res32 : Tryd.f32.results.toList = [.tmp 4] := by rfl
theorem res33 : Tryd.f33.results.toList = [.tmp 2] := by rfl
theorem res34 : Tryd.f34.results.toList = [.tmp 4] := by rfl
theorem res35 : Tryd.f35.results.toList = [.tmp 6, .cell 7 74] := by rfl
theorem res36 : Tryd.f36.results.toList = [.tmp 2] := by rfl
theorem res37 : Tryd.f37.results.toList = [.tmp 4] := by rfl
theorem res38 : Tryd.f38.results.toList = [.tmp 2] := by rfl
theorem res39 : Tryd.f39.results.toList = [.tmp 2] := by rfl
theorem res40 : Tryd.f40.results.toList = [.tmp 2] := by rfl
theorem res41 : Tryd.f41.results.toList = [.tmp 2] := by rfl
theorem res42 : Tryd.f42.results.toList = [.tmp 6, .cell 7 74] := by rfl
theorem res43 : Tryd.f43.results.toList = [.tmp 2] := by rfl
theorem res44 : Tryd.f44.results.toList = [] := by rfl
theorem res47 : Tryd.f47.results.toList = [.tmp 4] := by rfl
theorem res49 : Tryd.f49.results.toList = [.tmp 2, .tmp 3] := by rfl
theorem res50 : Tryd.f50.results.toList = [.tmp 2] := by rfl
theorem res51 : Tryd.f51.results.toList = [] := by rfl
theorem res52 : Tryd.f52.results.toList = [] := by rfl
theorem res53 : Tryd.f53.results.toList = [] := by rfl
theorem res54 : Tryd.f54.results.toList = [] := by rfl
theorem res55 : Tryd.f55.results.toList = [.tmp 2] := by rfl
theorem res56 : Tryd.f56.results.toList = [.tmp 2] := by rfl
theorem ntm3 : Tryd.f3.ntmps = 95 := by rfl
theorem ntm4 : Tryd.f4.ntmps = 106 := by rfl
theorem ntm5 : Tryd.f5.ntmps = 80 := by rfl
theorem ntm8 : Tryd.f8.ntmps = 20 := by rfl
theorem ntm9 : Tryd.f9.ntmps = 62 := by rfl
theorem ntm10 : Tryd.f10.ntmps = 20 := by rfl
theorem ntm11 : Tryd.f11.ntmps = 119 := by rfl
theorem ntm12 : Tryd.f12.ntmps = 134 := by rfl
theorem ntm13 : Tryd.f13.ntmps = 61 := by rfl
theorem ntm14 : Tryd.f14.ntmps = 8 := by rfl
theorem ntm15 : Tryd.f15.ntmps = 43 := by rfl
theorem ntm16 : Tryd.f16.ntmps = 96 := by rfl
theorem ntm17 : Tryd.f17.ntmps = 3 := by rfl
theorem ntm18 : Tryd.f18.ntmps = 48 := by rfl
theorem ntm19 : Tryd.f19.ntmps = 10 := by rfl
theorem ntm20 : Tryd.f20.ntmps = 9 := by rfl
theorem ntm21 : Tryd.f21.ntmps = 29 := by rfl
theorem ntm23 : Tryd.f23.ntmps = 39 := by rfl
theorem ntm24 : Tryd.f24.ntmps = 20 := by rfl
theorem ntm25 : Tryd.f25.ntmps = 27 := by rfl
theorem ntm26 : Tryd.f26.ntmps = 25 := by rfl
theorem ntm27 : Tryd.f27.ntmps = 56 := by rfl
theorem ntm28 : Tryd.f28.ntmps = 66 := by rfl
theorem ntm29 : Tryd.f29.ntmps = 37 := by rfl
theorem ntm31 : Tryd.f31.ntmps = 10 := by rfl
theorem ntm32 : Tryd.f32.ntmps = 23 := by rfl
theorem ntm33 : Tryd.f33.ntmps = 33 := by rfl
theorem ntm34 : Tryd.f34.ntmps = 48 := by rfl
theorem ntm35 : Tryd.f35.ntmps = 60 := by rfl
theorem ntm36 : Tryd.f36.ntmps = 22 := by rfl
theorem ntm37 : Tryd.f37.ntmps = 26 := by rfl
theorem ntm38 : Tryd.f38.ntmps = 8 := by rfl
theorem ntm39 : Tryd.f39.ntmps = 17 := by rfl
theorem ntm40 : Tryd.f40.ntmps = 16 := by rfl
theorem ntm41 : Tryd.f41.ntmps = 12 := by rfl
theorem ntm42 : Tryd.f42.ntmps = 79 := by rfl
theorem ntm43 : Tryd.f43.ntmps = 52 := by rfl
theorem ntm44 : Tryd.f44.ntmps = 88 := by rfl
theorem ntm47 : Tryd.f47.ntmps = 21 := by rfl
theorem ntm49 : Tryd.f49.ntmps = 26 := by rfl
theorem ntm50 : Tryd.f50.ntmps = 8 := by rfl
theorem ntm51 : Tryd.f51.ntmps = 16 := by rfl
theorem ntm52 : Tryd.f52.ntmps = 61 := by rfl
theorem ntm53 : Tryd.f53.ntmps = 91 := by rfl
theorem ntm54 : Tryd.f54.ntmps = 47 := by rfl
theorem ntm55 : Tryd.f55.ntmps = 6 := by rfl
theorem ntm56 : Tryd.f56.ntmps = 14 := by rfl
theorem lore_keep5_7 : lore.keep 5 7 = [0, 1, 2, 3, 9, 10] := by rfl
theorem lore_keep9_7 : lore.keep 9 7 = [7, 8, 9] := by rfl
theorem lore_keep9_11 : lore.keep 9 11 = [7, 8, 9, 10, 11] := by rfl
theorem lore_keep11_8 : lore.keep 11 8 = [0, 4, 5, 6, 7, 8, 9] := by rfl
theorem lore_keep12_5 : lore.keep 12 5 = [0, 4, 24, 25, 26] := by rfl
theorem lore_keep12_14 : lore.keep 12 14 = [0, 4, 7, 8, 9, 10, 11, 12, 13] := by rfl
theorem lore_keep15_4 : lore.keep 15 4 = [0, 1, 4, 12, 13] := by rfl
theorem lore_keep16_5 : lore.keep 16 5 = [0, 3, 4, 5, 11, 12, 13] := by rfl
theorem lore_keep21_6 : lore.keep 21 6 = [6, 18, 19, 20] := by rfl
theorem lore_keep23_5 : lore.keep 23 5 = [0, 2, 3, 4, 5, 13, 14, 15] := by rfl
theorem lore_keep25_4 : lore.keep 25 4 = [0, 2, 3, 4] := by rfl
theorem lore_keep26_3 : lore.keep 26 3 = [0, 2, 3, 4] := by rfl
theorem lore_keep27_3 : lore.keep 27 3 = [0, 5, 6, 7] := by rfl
theorem lore_keep29_4 : lore.keep 29 4 = [0, 2, 9, 10] := by rfl
theorem lore_keep32_3 : lore.keep 32 3 = [0, 5, 6] := by rfl
theorem lore_keep33_3 : lore.keep 33 3 = [0, 2, 3, 4] := by rfl
theorem lore_keep34_3 : lore.keep 34 3 = [0, 1, 5, 6] := by rfl
theorem lore_keep36_2 : lore.keep 36 2 = [0, 2, 5, 6, 7] := by rfl
theorem lore_keep37_4 : lore.keep 37 4 = [0, 1, 4, 12, 13] := by rfl
theorem lore_keep39_3 : lore.keep 39 3 = [3, 6, 7, 8] := by rfl
theorem lore_keep49_2 : lore.keep 49 2 = [0, 4, 5] := by rfl
theorem lore_keep49_4 : lore.keep 49 4 = [0, 4, 5] := by rfl
theorem lore_keep51_1 : lore.keep 51 1 = [0, 1] := by rfl
theorem lore_keep52_1 : lore.keep 52 1 = [0, 1, 6] := by rfl
theorem lore_keep54_3 : lore.keep 54 3 = [0, 1, 11, 12] := by rfl
set_option maxRecDepth 100000 in
theorem okf_all : (okfTab.all fun g => match Tryd.prog.funcs[g]? with | some fn => !(fn.name == "runtime.NumGoroutine") && (match fn.body with | some b => codeOk lore.toEnv g b | none => true) | none => true) = true := by kernel_rfl
theorem follows_mixed : Tryd.prog.follows .mixedOrders = true := by kernel_rfl
theorem okf_fns (g : Nat) (fn : Func) (b : Code) (h : lore.okf g = true) (hf : lore.P.funcs[g]? = some fn) (hb : fn.body = some b) : (fn.name == "runtime.NumGoroutine") = false ∧ codeOk lore.toEnv g b = true := by
  have := List.all_eq_true.1 okf_all g (by simpa [lore] using h)
  rw [show Tryd.prog.funcs[g]? = some fn from hf] at this
  simp only [hb, Bool.and_eq_true, Bool.not_eq_true'] at this
  exact this
theorem lore_G0 : lore.G 0 = some ([.int .u64 2, .int .i64 2, .int .i64 14, .int .u64 6, .int .i64 3, .int .i64 17, .int .u64 14, .int .i64 4, .int .i64 20]) := by rfl
theorem lore_G2 : lore.G 2 = some ([.int .u8 0, .int .u8 1, .int .u8 56, .int .u8 2, .int .u8 57, .int .u8 49, .int .u8 28, .int .u8 3, .int .u8 61, .int .u8 58, .int .u8 42, .int .u8 50, .int .u8 38, .int .u8 29, .int .u8 17, .int .u8 4, .int .u8 62, .int .u8 47, .int .u8 59, .int .u8 36, .int .u8 45, .int .u8 43, .int .u8 51, .int .u8 22, .int .u8 53, .int .u8 39, .int .u8 33, .int .u8 30, .int .u8 24, .int .u8 18, .int .u8 12, .int .u8 5, .int .u8 63, .int .u8 55, .int .u8 48, .int .u8 27, .int .u8 60, .int .u8 41, .int .u8 37, .int .u8 16, .int .u8 46, .int .u8 35, .int .u8 44, .int .u8 21, .int .u8 52, .int .u8 32, .int .u8 23, .int .u8 11, .int .u8 54, .int .u8 26, .int .u8 40, .int .u8 15, .int .u8 34, .int .u8 20, .int .u8 31, .int .u8 10, .int .u8 25, .int .u8 14, .int .u8 19, .int .u8 9, .int .u8 13, .int .u8 8, .int .u8 7, .int .u8 6]) := by rfl
def lors := (And.intro (And.intro (And.intro (And.intro (And.intro (And.intro @lore_P (And.intro @lore_imm @res3)) (And.intro (And.intro @res4 @res5) (And.intro @res8 @res9))) (And.intro (And.intro (And.intro @res10 @res11) (And.intro @res12 @res13)) (And.intro (And.intro @res14 @res15) (And.intro @res16 @res17)))) (And.intro (And.intro (And.intro @res18 (And.intro @res19 @res20)) (And.intro (And.intro @res21 @res23) (And.intro @res24 @res25))) (And.intro (And.intro (And.intro @res26 @res27) (And.intro @res28 @res29)) (And.intro (And.intro @res31 @res32) (And.intro @res33 @res34))))) (And.intro (And.intro (And.intro (And.intro @res35 (And.intro @res36 @res37)) (And.intro (And.intro @res38 @res39) (And.intro @res40 @res41))) (And.intro (And.intro (And.intro @res42 @res43) (And.intro @res44 @res47)) (And.intro (And.intro @res49 @res50) (And.intro @res51 @res52)))) (And.intro (And.intro (And.intro (And.intro @res53 @res54) (And.intro @res55 @res56)) (And.intro (And.intro @ntm3 @ntm4) (And.intro @ntm5 @ntm8))) (And.intro (And.intro (And.intro @ntm9 @ntm10) (And.intro @ntm11 @ntm12)) (And.intro (And.intro @ntm13 @ntm14) (And.intro @ntm15 @ntm16)))))) (And.intro (And.intro (And.intro (And.intro (And.intro @ntm17 (And.intro @ntm18 @ntm19)) (And.intro (And.intro @ntm20 @ntm21) (And.intro @ntm23 @ntm24))) (And.intro (And.intro (And.intro @ntm25 @ntm26) (And.intro @ntm27 @ntm28)) (And.intro (And.intro @ntm29 @ntm31) (And.intro @ntm32 @ntm33)))) (And.intro (And.intro (And.intro (And.intro @ntm34 @ntm35) (And.intro @ntm36 @ntm37)) (And.intro (And.intro @ntm38 @ntm39) (And.intro @ntm40 @ntm41))) (And.intro (And.intro (And.intro @ntm42 @ntm43) (And.intro @ntm44 @ntm47)) (And.intro (And.intro @ntm49 @ntm50) (And.intro @ntm51 @ntm52))))) (And.intro (And.intro (And.intro (And.intro @ntm53 (And.intro @ntm54 @ntm55)) (And.intro (And.intro @ntm56 @lore_keep5_7) (And.intro @lore_keep9_7 @lore_keep9_11))) (And.intro (And.intro (And.intro @lore_keep11_8 @lore_keep12_5) (And.intro @lore_keep12_14 @lore_keep15_4)) (And.intro (And.intro @lore_keep16_5 @lore_keep21_6) (And.intro @lore_keep23_5 @lore_keep25_4)))) (And.intro (And.intro (And.intro (And.intro @lore_keep26_3 @lore_keep27_3) (And.intro @lore_keep29_4 @lore_keep32_3)) (And.intro (And.intro @lore_keep33_3 @lore_keep34_3) (And.intro @lore_keep36_2 @lore_keep37_4))) (And.intro (And.intro (And.intro @lore_keep39_3 @lore_keep49_2) (And.intro @lore_keep49_4 @lore_keep51_1)) (And.intro (And.intro @lore_keep52_1 @lore_keep54_3) (And.intro @lore_G0 @lore_G2)))))))
end Go.Proofs.YtmjdcoacmmmhnaaDoor
