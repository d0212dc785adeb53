/-
What the interpreter is told of this program: slots that live at loops' heads; functions told by a contract; variables laid.
-/
import Derived.Test.YtgoillhmgpokoaaDoorTypes
import Derived.Test.YtgoillhmgpokoaaDoorExt
import Derived.Test.YtgoillhmgpokoaaDoorProg
import Derived.KernelRfl
namespace Go.Proofs.YtgoillhmgpokoaaDoor
open Go Ev
set_option linter.all false
set_option linter.defProp false

def keepTab : List ((Nat × Nat) × List Nat) := [((10, 7), [0, 4, 13, 14, 15]), ((11, 8), [0, 5, 6]), ((12, 4), [0, 2, 3, 4, 5, 6, 7]), ((13, 4), [0, 2, 3, 4, 5, 6, 7]), ((23, 4), [1, 2, 4, 5]), ((28, 6), [1, 2, 5, 6]), ((37, 2), [0, 2, 3]), ((38, 2), [0, 3]), ((39, 4), [0, 1, 6, 7, 11, 12, 13]), ((39, 8), [0, 1, 6, 7, 8, 9, 10, 11, 12, 13]), ((40, 3), [0, 1, 4, 5, 6]), ((41, 5), [0, 1, 2, 6, 7, 8, 9, 10]), ((42, 3), [0, 1, 2, 9, 10]), ((42, 13), [0, 1, 15, 16]), ((47, 2), [2, 3, 4, 6]), ((49, 4), [0, 1, 6, 7, 8]), ((49, 10), [0, 1, 6, 7, 8]), ((52, 17), [2, 8, 9, 10, 11, 13, 14, 15, 16]), ((52, 24), [2, 8, 9, 10, 14, 15, 16, 17, 18])]
def okfTab : List Nat := [3, 4, 5, 6, 7, 8, 9, 10, 11, 12, 13, 14, 15, 16, 17, 18, 19, 20, 21, 22, 23, 24, 25, 26, 27, 28, 29, 30, 31, 32, 33, 35, 36, 37, 38, 39, 40, 41, 42, 43, 44, 45, 46, 47, 48, 49, 52, 57, 59]
def extOf : Nat → Option (List V → Option V)
  | 34 => some itoaX
  | 51 => some mul64X
  | _ => none
def globOf : Nat → Option (List V)
  | _ => none
noncomputable def lore : Lore := { P := Tryd.prog, G := globOf, imm := fun _ => [], keep := fun f k => ((keepTab.lookup (f, k))).getD [], ext := extOf, shared := fun _ => false, okf := fun f => okfTab.contains f }
theorem lore_P : lore.toEnv.P = Tryd.prog := by rfl
theorem lore_imm (f : Nat) : lore.imm f = [] := by rfl
theorem lore_shared (f : Nat) : lore.shared f = false := by rfl
theorem lore_okf3 : lore.okf 3 = true := by rfl
theorem lore_ext3 : lore.ext 3 = none := by rfl
theorem lore_okf4 : lore.okf 4 = true := by rfl
theorem lore_ext4 : lore.ext 4 = none := by rfl
theorem lore_okf5 : lore.okf 5 = true := by rfl
theorem lore_ext5 : lore.ext 5 = none := by rfl
theorem lore_okf6 : lore.okf 6 = true := by rfl
theorem lore_ext6 : lore.ext 6 = none := by rfl
theorem lore_okf7 : lore.okf 7 = true := by rfl
theorem lore_ext7 : lore.ext 7 = none := by rfl
theorem lore_okf8 : lore.okf 8 = true := by rfl
theorem lore_ext8 : lore.ext 8 = none := by rfl
theorem lore_okf9 : lore.okf 9 = true := by rfl
theorem lore_ext9 : lore.ext 9 = none := by rfl
theorem lore_okf10 : lore.okf 10 = true := by rfl
theorem lore_ext10 : lore.ext 10 = none := by rfl
theorem lore_okf11 : lore.okf 11 = true := by rfl
theorem lore_ext11 : lore.ext 11 = none := by rfl
theorem lore_okf12 : lore.okf 12 = true := by rfl
theorem lore_ext12 : lore.ext 12 = none := by rfl
theorem lore_okf13 : lore.okf 13 = true := by rfl
theorem lore_ext13 : lore.ext 13 = none := by rfl
theorem lore_okf14 : lore.okf 14 = true := by rfl
theorem lore_ext14 : lore.ext 14 = none := by rfl
theorem lore_okf15 : lore.okf 15 = true := by rfl
theorem lore_ext15 : lore.ext 15 = none := by rfl
theorem lore_okf16 : lore.okf 16 = true := by rfl
theorem lore_ext16 : lore.ext 16 = none := by rfl
theorem lore_okf17 : lore.okf 17 = true := by rfl
theorem lore_ext17 : lore.ext 17 = none := by rfl
theorem lore_okf18 : lore.okf 18 = true := by rfl
theorem lore_ext18 : lore.ext 18 = none := by rfl
theorem lore_okf19 : lore.okf 19 = true := by rfl
theorem lore_ext19 : lore.ext 19 = none := by rfl
theorem lore_okf20 : lore.okf 20 = true := by rfl
theorem lore_ext20 : lore.ext 20 = none := by rfl
theorem lore_okf21 : lore.okf 21 = true := by rfl
theorem lore_ext21 : lore.ext 21 = none := by rfl
theorem lore_okf22 : lore.okf 22 = true := by rfl
theorem lore_ext22 : lore.ext 22 = none := by rfl
theorem lore_okf23 : lore.okf 23 = true := by rfl
theorem lore_ext23 : lore.ext 23 = none := by rfl
theorem lore_okf24 : lore.okf 24 = true := by rfl
theorem lore_ext24 : lore.ext 24 = none := by rfl
theorem lore_okf25 : lore.okf 25 = true := by rfl
theorem lore_ext25 : lore.ext 25 = none := by rfl
theorem lore_okf26 : lore.okf 26 = true := by rfl
theorem lore_ext26 : lore.ext 26 = none := by rfl
theorem lore_okf27 : lore.okf 27 = true := by rfl
theorem lore_ext27 : lore.ext 27 = none := by rfl
theorem lore_okf28 : lore.okf 28 = true := by rfl
theorem lore_ext28 : lore.ext 28 = none := by rfl
theorem lore_okf29 : lore.okf 29 = true := by rfl
theorem lore_ext29 : lore.ext 29 = none := by rfl
theorem lore_okf30 : lore.okf 30 = true := by rfl
theorem lore_ext30 : lore.ext 30 = none := by rfl
theorem lore_okf31 : lore.okf 31 = true := by rfl
theorem lore_ext31 : lore.ext 31 = none := by rfl
theorem lore_okf32 : lore.okf 32 = true := by rfl
theorem lore_ext32 : lore.ext 32 = none := by rfl
theorem lore_okf33 : lore.okf 33 = true := by rfl
theorem lore_ext33 : lore.ext 33 = none := by rfl
theorem lore_okf35 : lore.okf 35 = true := by rfl
theorem lore_ext35 : lore.ext 35 = none := by rfl
theorem lore_okf36 : lore.okf 36 = true := by rfl
theorem lore_ext36 : lore.ext 36 = none := by rfl
theorem lore_okf37 : lore.okf 37 = true := by rfl
theorem lore_ext37 : lore.ext 37 = none := by rfl
theorem lore_okf38 : lore.okf 38 = true := by rfl
theorem lore_ext38 : lore.ext 38 = none := by rfl
theorem lore_okf39 : lore.okf 39 = true := by rfl
theorem lore_ext39 : lore.ext 39 = none := by rfl
theorem lore_okf40 : lore.okf 40 = true := by rfl
theorem lore_ext40 : lore.ext 40 = none := by rfl
theorem lore_okf41 : lore.okf 41 = true := by rfl
theorem lore_ext41 : lore.ext 41 = none := by rfl
theorem lore_okf42 : lore.okf 42 = true := by rfl
theorem lore_ext42 : lore.ext 42 = none := by rfl
theorem lore_okf43 : lore.okf 43 = true := by rfl
theorem lore_ext43 : lore.ext 43 = none := by rfl
theorem lore_okf44 : lore.okf 44 = true := by rfl
theorem lore_ext44 : lore.ext 44 = none := by rfl
theorem lore_okf45 : lore.okf 45 = true := by rfl
theorem lore_ext45 : lore.ext 45 = none := by rfl
theorem lore_okf46 : lore.okf 46 = true := by rfl
theorem lore_ext46 : lore.ext 46 = none := by rfl
theorem lore_okf47 : lore.okf 47 = true := by rfl
theorem lore_ext47 : lore.ext 47 = none := by rfl
theorem lore_okf48 : lore.okf 48 = true := by rfl
theorem lore_ext48 : lore.ext 48 = none := by rfl
theorem lore_okf49 : lore.okf 49 = true := by rfl
theorem lore_ext49 : lore.ext 49 = none := by rfl
theorem lore_okf52 : lore.okf 52 = true := by rfl
theorem lore_ext52 : lore.ext 52 = none := by rfl
theorem lore_okf57 : lore.okf 57 = true := by rfl
theorem lore_ext57 : lore.ext 57 = none := by rfl
theorem lore_okf59 : lore.okf 59 = true := by rfl
theorem lore_ext59 : lore.ext 59 = none := by rfl
theorem res3 : Tryd.f3.results.toList = [.tmp 4] := by rfl
theorem res4 : Tryd.f4.results.toList = [.tmp 6] := by rfl
theorem res5 : Tryd.f5.results.toList = [.tmp 6] := by rfl
theorem res6 : Tryd.f6.results.toList = [.tmp 8] := by rfl
theorem res7 : Tryd.f7.results.toList = [.tmp 8] := by rfl
theorem res8 : Tryd.f8.results.toList = [.tmp 6] := by rfl
theorem res9 : Tryd.f9.results.toList = [.tmp 6] := by rfl
theorem res10 : Tryd.f10.results.toList = [.tmp 2, .tmp 3] := by rfl
theorem res11 : Tryd.f11.results.toList = [.tmp 2, .tmp 3] := by rfl
theorem res12 : Tryd.f12.results.toList = [.tmp 2, .tmp 3, .tmp 4] := by rfl
theorem res13 : Tryd.f13.results.toList = [.tmp 2, .tmp 3, .tmp 4] := by rfl
theorem res14 : Tryd.f14.results.toList = [.tmp 0] := by rfl
theorem res15 : Tryd.f15.results.toList = [.tmp 4, .tmp 5] := by rfl
theorem res16 : Tryd.f16.results.toList = [.tmp 4, .tmp 5] := by rfl
theorem res17 : Tryd.f17.results.toList = [.tmp 4, .tmp 5, .tmp 6] := by rfl
theorem res18 : Tryd.f18.results.toList = [.tmp 4, .tmp 5] := by rfl
theorem res19 : Tryd.f19.results.toList = [.tmp 4, .tmp 5, .tmp 6] := by rfl
theorem res20 : Tryd.f20.results.toList = [.tmp 6, .tmp 7, .tmp 8] := by rfl
theorem res21 : Tryd.f21.results.toList = [.tmp 6, .tmp 7, .tmp 8] := by rfl
theorem res22 : Tryd.f22.results.toList = [.tmp 4, .tmp 5] := by rfl
theorem res23 : Tryd.f23.results.toList = [.cell 2 29, .tmp 3] := by rfl
theorem res24 : Tryd.f24.results.toList = [.tmp 2, .tmp 3] := by rfl
theorem res25 : Tryd.f25.results.toList = [.cell 2 29, .tmp 3, .tmp 4] := by rfl
theorem res26 : Tryd.f26.results.toList = [.tmp 2] := by rfl
theorem res27 : Tryd.f27.results.toList = [.tmp 2] := by rfl
theorem res28 : Tryd.f28.results.toList = [.cell 2 29, .tmp 3] := by rfl
theorem res29 : Tryd.f29.results.toList = [.tmp 4, .tmp 5] := by rfl
theorem res30 : Tryd.f30.results.toList = [.tmp 2, .tmp 3] := by rfl
theorem res31 : Tryd.f31.results.toList = [.cell 2 29, .tmp 3, .tmp 4] := by rfl
theorem res32 : Tryd.f32.results.toList = [.tmp 2] := by rfl
theorem res33 : Tryd.f33.results.toList = [.tmp 0] := by rfl
theorem res35 : Tryd.f35.results.toList = [.tmp 2] := by rfl
theorem res36 : Tryd.f36.results.toList = [.tmp 2, .tmp 3] := by rfl
theorem res37 : Tryd.f37.results.toList = [.tmp 2] := by rfl
theorem res38 : Tryd.f38.results.toList = [.tmp 2] := by rfl
theorem res39 : Tryd.f39.results.toList = [.tmp 4, .tmp 5] := by rfl
theorem res40 : Tryd.f40.results.toList = [.tmp 4] := by rfl
theorem res41 : Tryd.f41.results.toList = [.tmp 6, .tmp 7, .tmp 8] := by rfl
theorem res42 : Tryd.f42.results.toList = [.tmp 6, .tmp 7, .tmp 8] := by rfl
theorem res43 : Tryd.f43.results.toList = [.tmp 2] := by rfl
theorem res44 : Tryd.f44.results.toList = [.cell 4 72] := by rfl
theorem res45 : Tryd.f45.results.toList = [.tmp 4, .tmp 5, .tmp 6] := by rfl
theorem res46 : Tryd.f46.results.toList = [.tmp 2] := by rfl
theorem res47 : Tryd.f47.results.toList = [.tmp 4] := by rfl
theorem res48 : Tryd.f48.results.toList = [.tmp 2] := by rfl
theorem res49 : Tryd.f49.results.toList = [.tmp 4, .tmp 5] := by rfl
theorem res52 : Tryd.f52.results.toList = [.tmp 6, .tmp 7] := by rfl
theorem res57 : Tryd.f57.results.toList = [.tmp 2] := by rfl
theorem res59 : Tryd.f59.results.toList = [.tmp 2] := by rfl
theorem ntm3 : Tryd.f3.ntmps = 56 := by rfl
theorem ntm4 : Tryd.f4.ntmps = 71 := by rfl
theorem ntm5 : Tryd.f5.ntmps = 117 := by rfl
theorem ntm6 : Tryd.f6.ntmps = 96 := by rfl
theorem ntm7 : Tryd.f7.ntmps = 190 := by rfl
theorem ntm8 : Tryd.f8.ntmps = 142 := by rfl
theorem ntm9 : Tryd.f9.ntmps = 108 := by rfl
theorem ntm10 : Tryd.f10.ntmps = 38 := by rfl
theorem ntm11 : Tryd.f11.ntmps = 39 := by rfl
theorem ntm12 : Tryd.f12.ntmps = 83 := by rfl
theorem ntm13 : Tryd.f13.ntmps = 65 := by rfl
theorem ntm14 : Tryd.f14.ntmps = 58 := by rfl
theorem ntm15 : Tryd.f15.ntmps = 34 := by rfl
theorem ntm16 : Tryd.f16.ntmps = 17 := by rfl
theorem ntm17 : Tryd.f17.ntmps = 28 := by rfl
theorem ntm18 : Tryd.f18.ntmps = 22 := by rfl
theorem ntm19 : Tryd.f19.ntmps = 31 := by rfl
theorem ntm20 : Tryd.f20.ntmps = 38 := by rfl
theorem ntm21 : Tryd.f21.ntmps = 38 := by rfl
theorem ntm22 : Tryd.f22.ntmps = 25 := by rfl
theorem ntm23 : Tryd.f23.ntmps = 29 := by rfl
theorem ntm24 : Tryd.f24.ntmps = 21 := by rfl
theorem ntm25 : Tryd.f25.ntmps = 61 := by rfl
theorem ntm26 : Tryd.f26.ntmps = 6 := by rfl
theorem ntm27 : Tryd.f27.ntmps = 8 := by rfl
theorem ntm28 : Tryd.f28.ntmps = 31 := by rfl
theorem ntm29 : Tryd.f29.ntmps = 61 := by rfl
theorem ntm30 : Tryd.f30.ntmps = 23 := by rfl
theorem ntm31 : Tryd.f31.ntmps = 61 := by rfl
theorem ntm32 : Tryd.f32.ntmps = 9 := by rfl
theorem ntm33 : Tryd.f33.ntmps = 8 := by rfl
theorem ntm35 : Tryd.f35.ntmps = 9 := by rfl
theorem ntm36 : Tryd.f36.ntmps = 16 := by rfl
theorem ntm37 : Tryd.f37.ntmps = 17 := by rfl
theorem ntm38 : Tryd.f38.ntmps = 30 := by rfl
theorem ntm39 : Tryd.f39.ntmps = 70 := by rfl
theorem ntm40 : Tryd.f40.ntmps = 32 := by rfl
theorem ntm41 : Tryd.f41.ntmps = 85 := by rfl
theorem ntm42 : Tryd.f42.ntmps = 109 := by rfl
theorem ntm43 : Tryd.f43.ntmps = 21 := by rfl
theorem ntm44 : Tryd.f44.ntmps = 18 := by rfl
theorem ntm45 : Tryd.f45.ntmps = 26 := by rfl
theorem ntm46 : Tryd.f46.ntmps = 9 := by rfl
theorem ntm47 : Tryd.f47.ntmps = 24 := by rfl
theorem ntm48 : Tryd.f48.ntmps = 21 := by rfl
theorem ntm49 : Tryd.f49.ntmps = 33 := by rfl
theorem ntm52 : Tryd.f52.ntmps = 135 := by rfl
theorem ntm57 : Tryd.f57.ntmps = 6 := by rfl
theorem ntm59 : Tryd.f59.ntmps = 25 := by rfl
theorem lore_keep10_7 : lore.keep 10 7 = [0, 4, 13, 14, 15] := by rfl
theorem lore_keep11_8 : lore.keep 11 8 = [0, 5, 6] := by rfl
theorem lore_keep12_4 : lore.keep 12 4 = [0, 2, 3, 4, 5, 6, 7] := by rfl
theorem lore_keep13_4 : lore.keep 13 4 = [0, 2, 3, 4, 5, 6, 7] := by rfl
theorem lore_keep23_4 : lore.keep 23 4 = [1, 2, 4, 5] := by rfl
theorem lore_keep28_6 : lore.keep 28 6 = [1, 2, 5, 6] := by rfl
theorem lore_keep37_2 : lore.keep 37 2 = [0, 2, 3] := by rfl
theorem lore_keep38_2 : lore.keep 38 2 = [0, 3] := by rfl
theorem lore_keep39_4 : lore.keep 39 4 = [0, 1, 6, 7, 11, 12, 13] := by rfl
theorem lore_keep39_8 : lore.keep 39 8 = [0, 1, 6, 7, 8, 9, 10, 11, 12, 13] := by rfl
theorem lore_keep40_3 : lore.keep 40 3 = [0, 1, 4, 5, 6] := by rfl
theorem lore_keep41_5 : lore.keep 41 5 = [0, 1, 2, 6, 7, 8, 9, 10] := by rfl
theorem lore_keep42_3 : lore.keep 42 3 = [0, 1, 2, 9, 10] := by rfl
theorem lore_keep42_13 : lore.keep 42 13 = [0, 1, 15, 16] := by rfl
theorem lore_keep47_2 : lore.keep 47 2 = [2, 3, 4, 6] := by rfl
theorem lore_keep49_4 : lore.keep 49 4 = [0, 1, 6, 7, 8] := by rfl
theorem lore_keep49_10 : lore.keep 49 10 = [0, 1, 6, 7, 8] := by rfl
theorem lore_keep52_17 : lore.keep 52 17 = [2, 8, 9, 10, 11, 13, 14, 15, 16] := by rfl
theorem lore_keep52_24 : lore.keep 52 24 = [2, 8, 9, 10, 14, 15, 16, 17, 18] := by rfl
set_option maxRecDepth 100000 in
theorem okf_all : (okfTab.all fun g => match Tryd.prog.funcs[g]? with | some fn => !(fn.name == "runtime.NumGoroutine") && (match fn.body with | some b => codeOk lore.toEnv g b | none => true) | none => true) = true := by kernel_rfl
theorem follows_mixed : Tryd.prog.follows .mixedOrders = true := by kernel_rfl
theorem okf_fns (g : Nat) (fn : Func) (b : Code) (h : lore.okf g = true) (hf : lore.P.funcs[g]? = some fn) (hb : fn.body = some b) : (fn.name == "runtime.NumGoroutine") = false ∧ codeOk lore.toEnv g b = true := by
  have := List.all_eq_true.1 okf_all g (by simpa [lore] using h)
  rw [show Tryd.prog.funcs[g]? = some fn from hf] at this
  simp only [hb, Bool.and_eq_true, Bool.not_eq_true'] at this
  exact this
def lors := (And.intro (And.intro (And.intro (And.intro (And.intro (And.intro @lore_P (And.intro @lore_imm @lore_shared)) (And.intro (And.intro @res3 @res4) (And.intro @res5 @res6))) (And.intro (And.intro (And.intro @res7 @res8) (And.intro @res9 @res10)) (And.intro (And.intro @res11 @res12) (And.intro @res13 @res14)))) (And.intro (And.intro (And.intro @res15 (And.intro @res16 @res17)) (And.intro (And.intro @res18 @res19) (And.intro @res20 @res21))) (And.intro (And.intro (And.intro @res22 @res23) (And.intro @res24 @res25)) (And.intro (And.intro @res26 @res27) (And.intro @res28 @res29))))) (And.intro (And.intro (And.intro (And.intro @res30 (And.intro @res31 @res32)) (And.intro (And.intro @res33 @res35) (And.intro @res36 @res37))) (And.intro (And.intro (And.intro @res38 @res39) (And.intro @res40 @res41)) (And.intro (And.intro @res42 @res43) (And.intro @res44 @res45)))) (And.intro (And.intro (And.intro @res46 (And.intro @res47 @res48)) (And.intro (And.intro @res49 @res52) (And.intro @res57 @res59))) (And.intro (And.intro (And.intro @ntm3 @ntm4) (And.intro @ntm5 @ntm6)) (And.intro (And.intro @ntm7 @ntm8) (And.intro @ntm9 @ntm10)))))) (And.intro (And.intro (And.intro (And.intro (And.intro @ntm11 (And.intro @ntm12 @ntm13)) (And.intro (And.intro @ntm14 @ntm15) (And.intro @ntm16 @ntm17))) (And.intro (And.intro (And.intro @ntm18 @ntm19) (And.intro @ntm20 @ntm21)) (And.intro (And.intro @ntm22 @ntm23) (And.intro @ntm24 @ntm25)))) (And.intro (And.intro (And.intro @ntm26 (And.intro @ntm27 @ntm28)) (And.intro (And.intro @ntm29 @ntm30) (And.intro @ntm31 @ntm32))) (And.intro (And.intro (And.intro @ntm33 @ntm35) (And.intro @ntm36 @ntm37)) (And.intro (And.intro @ntm38 @ntm39) (And.intro @ntm40 @ntm41))))) (And.intro (And.intro (And.intro (And.intro @ntm42 (And.intro @ntm43 @ntm44)) (And.intro (And.intro @ntm45 @ntm46) (And.intro @ntm47 @ntm48))) (And.intro (And.intro (And.intro @ntm49 @ntm52) (And.intro @ntm57 @ntm59)) (And.intro (And.intro @lore_keep10_7 @lore_keep11_8) (And.intro @lore_keep12_4 @lore_keep13_4)))) (And.intro (And.intro (And.intro @lore_keep23_4 (And.intro @lore_keep28_6 @lore_keep37_2)) (And.intro (And.intro @lore_keep38_2 @lore_keep39_4) (And.intro @lore_keep39_8 @lore_keep40_3))) (And.intro (And.intro (And.intro @lore_keep41_5 @lore_keep42_3) (And.intro @lore_keep42_13 @lore_keep47_2)) (And.intro (And.intro @lore_keep49_4 @lore_keep49_10) (And.intro @lore_keep52_17 @lore_keep52_24)))))))
end Go.Proofs.YtgoillhmgpokoaaDoor
