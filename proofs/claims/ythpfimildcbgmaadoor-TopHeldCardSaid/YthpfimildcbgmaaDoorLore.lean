/-
What the interpreter is told of this program: slots that live at loops' heads; functions told by a contract; variables laid.
-/
import Derived.Test.YthpfimildcbgmaaDoorTypes
import Derived.Test.YthpfimildcbgmaaDoorEvBits
import Derived.Test.YthpfimildcbgmaaDoorExt
import Derived.Test.YthpfimildcbgmaaDoorProg
import Derived.KernelRfl
namespace Go.Proofs.YthpfimildcbgmaaDoor
open Go Ev
set_option linter.all false
set_option linter.defProp false

noncomputable def keepTab : List ((Nat × Nat) × List Nat) := [((4, 11), [0, 6, 7, 9, 10, 51, 52, 53]), ((5, 11), [0, 2, 6, 7, 9, 10, 61, 62, 63]), ((5, 24), [0, 6, 7, 9, 10, 15, 16, 17, 101, 102, 103]), ((5, 32), [0, 6, 7, 9, 10, 15, 17, 27, 28, 29, 101, 102, 103, 124, 125, 126]), ((36, 7), [0, 4, 13, 14, 15]), ((44, 3), [0, 3, 6, 7]), ((45, 2), [6, 7]), ((46, 5), [1, 2, 4, 38, 39]), ((48, 4), [6]), ((95, 13), [0, 3, 4, 5]), ((98, 3), [3, 6, 7, 8])]
noncomputable def okfTab : List Nat := [4, 5, 7, 8, 9, 10, 11, 12, 13, 14, 15, 16, 17, 18, 19, 20, 21, 22, 23, 24, 25, 26, 27, 28, 29, 30, 35, 36, 37, 38, 39, 40, 41, 43, 44, 45, 46, 47, 48, 49, 50, 51, 52, 54, 55, 57, 59, 76, 77, 78, 79, 80, 81, 82, 83, 85, 86, 88, 89, 90, 91, 92, 93, 94, 95, 96, 98, 109, 114, 115, 116, 117, 118, 119, 120, 121, 132, 137, 138, 139, 140, 141, 142, 143, 144, 145, 146, 147, 148, 160, 161, 162, 163]
noncomputable def extOf : Nat → Option (List V → Heap → Res)
  | 87 => some (pureX len64X)
  | 110 => some (atomX Tryd.prog 37 .add)
  | 111 => some (atomX Tryd.prog 37 .load)
  | 112 => some (atomX Tryd.prog 37 .store)
  | 149 => some (atomX Tryd.prog 37 .swap)
  | 150 => some (atomX Tryd.prog 37 .cas)
  | _ => none
noncomputable def globOf : Nat → Option (List V)
  | 0 => some ([.bool false, .bool false, .bool false, .bool false, .bool false, .bool true, .bool false, .bool true, .bool false, .bool true, .bool true, .bool true])
  | _ => none
noncomputable def shTab : List Nat := [8, 9, 10, 11, 12, 13, 14, 15, 17, 18, 19, 21, 22, 23, 24, 25, 26, 27, 28, 29, 30, 35, 37, 38, 40, 41, 42, 43, 44, 45, 48, 50, 52, 53, 54, 55, 56, 78, 79, 80, 81, 82, 83, 84, 85, 86, 88, 89, 90, 91, 92, 93, 94, 95, 110, 111, 112, 113, 114, 115, 116, 117, 118, 119, 120, 121, 136, 137, 138, 139, 140, 141, 142, 143, 144, 145, 146, 147, 148, 149, 150, 160, 161, 162, 163]
noncomputable def blindOf : Nat → List Nat
  | 90 => [22]
  | _ => []
noncomputable def lore : Lore := { P := Tryd.prog, G := globOf, imm := fun _ => [], keep := fun f k => ((keepTab.lookup (f, k))).getD [], ext := extOf, shared := fun f => shTab.contains f, okf := fun f => okfTab.contains f, blind := blindOf }
theorem lore_P : lore.toEnv.P = Tryd.prog := by rfl
theorem lore_imm (f : Nat) : lore.imm f = [] := by rfl
theorem lore_sh4 : lore.shared 4 = false := by rfl
theorem lore_sh5 : lore.shared 5 = false := by rfl
theorem lore_sh7 : lore.shared 7 = false := by rfl
theorem lore_sh8 : lore.shared 8 = true := by rfl
theorem lore_sh9 : lore.shared 9 = true := by rfl
theorem lore_sh10 : lore.shared 10 = true := by rfl
theorem lore_sh11 : lore.shared 11 = true := by rfl
theorem lore_sh12 : lore.shared 12 = true := by rfl
theorem lore_sh13 : lore.shared 13 = true := by rfl
theorem lore_sh14 : lore.shared 14 = true := by rfl
theorem lore_sh15 : lore.shared 15 = true := by rfl
theorem lore_sh16 : lore.shared 16 = false := by rfl
theorem lore_sh17 : lore.shared 17 = true := by rfl
theorem lore_sh18 : lore.shared 18 = true := by rfl
theorem lore_sh19 : lore.shared 19 = true := by rfl
theorem lore_sh20 : lore.shared 20 = false := by rfl
theorem lore_sh21 : lore.shared 21 = true := by rfl
theorem lore_sh22 : lore.shared 22 = true := by rfl
theorem lore_sh23 : lore.shared 23 = true := by rfl
theorem lore_sh24 : lore.shared 24 = true := by rfl
theorem lore_sh25 : lore.shared 25 = true := by rfl
theorem lore_sh26 : lore.shared 26 = true := by rfl
theorem lore_sh27 : lore.shared 27 = true := by rfl
theorem lore_sh28 : lore.shared 28 = true := by rfl
theorem lore_sh29 : lore.shared 29 = true := by rfl
theorem lore_sh30 : lore.shared 30 = true := by rfl
theorem lore_sh35 : lore.shared 35 = true := by rfl
theorem lore_sh36 : lore.shared 36 = false := by rfl
theorem lore_sh37 : lore.shared 37 = true := by rfl
theorem lore_sh38 : lore.shared 38 = true := by rfl
theorem lore_sh39 : lore.shared 39 = false := by rfl
theorem lore_sh40 : lore.shared 40 = true := by rfl
theorem lore_sh41 : lore.shared 41 = true := by rfl
theorem lore_sh43 : lore.shared 43 = true := by rfl
theorem lore_sh44 : lore.shared 44 = true := by rfl
theorem lore_sh45 : lore.shared 45 = true := by rfl
theorem lore_sh46 : lore.shared 46 = false := by rfl
theorem lore_sh47 : lore.shared 47 = false := by rfl
theorem lore_sh48 : lore.shared 48 = true := by rfl
theorem lore_sh49 : lore.shared 49 = false := by rfl
theorem lore_sh50 : lore.shared 50 = true := by rfl
theorem lore_sh51 : lore.shared 51 = false := by rfl
theorem lore_sh52 : lore.shared 52 = true := by rfl
theorem lore_sh54 : lore.shared 54 = true := by rfl
theorem lore_sh55 : lore.shared 55 = true := by rfl
theorem lore_sh57 : lore.shared 57 = false := by rfl
theorem lore_sh59 : lore.shared 59 = false := by rfl
theorem lore_sh76 : lore.shared 76 = false := by rfl
theorem lore_sh77 : lore.shared 77 = false := by rfl
theorem lore_sh78 : lore.shared 78 = true := by rfl
theorem lore_sh79 : lore.shared 79 = true := by rfl
theorem lore_sh80 : lore.shared 80 = true := by rfl
theorem lore_sh81 : lore.shared 81 = true := by rfl
theorem lore_sh82 : lore.shared 82 = true := by rfl
theorem lore_sh83 : lore.shared 83 = true := by rfl
theorem lore_sh85 : lore.shared 85 = true := by rfl
theorem lore_sh86 : lore.shared 86 = true := by rfl
theorem lore_sh87 : lore.shared 87 = false := by rfl
theorem lore_sh88 : lore.shared 88 = true := by rfl
theorem lore_sh89 : lore.shared 89 = true := by rfl
theorem lore_sh90 : lore.shared 90 = true := by rfl
theorem lore_sh91 : lore.shared 91 = true := by rfl
theorem lore_sh92 : lore.shared 92 = true := by rfl
theorem lore_sh93 : lore.shared 93 = true := by rfl
theorem lore_sh94 : lore.shared 94 = true := by rfl
theorem lore_sh95 : lore.shared 95 = true := by rfl
theorem lore_sh96 : lore.shared 96 = false := by rfl
theorem lore_sh98 : lore.shared 98 = false := by rfl
theorem lore_sh109 : lore.shared 109 = false := by rfl
theorem lore_sh110 : lore.shared 110 = true := by rfl
theorem lore_sh111 : lore.shared 111 = true := by rfl
theorem lore_sh112 : lore.shared 112 = true := by rfl
theorem lore_sh114 : lore.shared 114 = true := by rfl
theorem lore_sh115 : lore.shared 115 = true := by rfl
theorem lore_sh116 : lore.shared 116 = true := by rfl
theorem lore_sh117 : lore.shared 117 = true := by rfl
theorem lore_sh118 : lore.shared 118 = true := by rfl
theorem lore_sh119 : lore.shared 119 = true := by rfl
theorem lore_sh120 : lore.shared 120 = true := by rfl
theorem lore_sh121 : lore.shared 121 = true := by rfl
theorem lore_sh132 : lore.shared 132 = false := by rfl
theorem lore_sh137 : lore.shared 137 = true := by rfl
theorem lore_sh138 : lore.shared 138 = true := by rfl
theorem lore_sh139 : lore.shared 139 = true := by rfl
theorem lore_sh140 : lore.shared 140 = true := by rfl
theorem lore_sh141 : lore.shared 141 = true := by rfl
theorem lore_sh142 : lore.shared 142 = true := by rfl
theorem lore_sh143 : lore.shared 143 = true := by rfl
theorem lore_sh144 : lore.shared 144 = true := by rfl
theorem lore_sh145 : lore.shared 145 = true := by rfl
theorem lore_sh146 : lore.shared 146 = true := by rfl
theorem lore_sh147 : lore.shared 147 = true := by rfl
theorem lore_sh148 : lore.shared 148 = true := by rfl
theorem lore_sh149 : lore.shared 149 = true := by rfl
theorem lore_sh150 : lore.shared 150 = true := by rfl
theorem lore_sh160 : lore.shared 160 = true := by rfl
theorem lore_sh161 : lore.shared 161 = true := by rfl
theorem lore_sh162 : lore.shared 162 = true := by rfl
theorem lore_sh163 : lore.shared 163 = true := by rfl
theorem lore_okf4 : lore.okf 4 = true := by rfl
theorem lore_ext4 : lore.ext 4 = none := by rfl
theorem lore_okf5 : lore.okf 5 = true := by rfl
theorem lore_ext5 : lore.ext 5 = none := by rfl
theorem lore_okf7 : lore.okf 7 = true := by rfl
theorem lore_ext7 : lore.ext 7 = none := by rfl
theorem lore_okf8 : lore.okf 8 = true := by rfl
theorem lore_ext8 : lore.ext 8 = none := by rfl
theorem lore_okf9 : lore.okf 9 = true := by rfl
theorem lore_ext9 : lore.ext 9 = none := by rfl
theorem lore_okf10 : lore.okf 10 = true := by rfl
theorem lore_ext10 : lore.ext 10 = none := by rfl
theorem lore_okf11 : lore.okf 11 = true := by rfl
theorem lore_ext11 : lore.ext 11 = none := by rfl
theorem lore_okf12 : lore.okf 12 = true := by rfl
theorem lore_ext12 : lore.ext 12 = none := by rfl
theorem lore_okf13 : lore.okf 13 = true := by rfl
theorem lore_ext13 : lore.ext 13 = none := by rfl
theorem lore_okf14 : lore.okf 14 = true := by rfl
theorem lore_ext14 : lore.ext 14 = none := by rfl
theorem lore_okf15 : lore.okf 15 = true := by rfl
theorem lore_ext15 : lore.ext 15 = none := by rfl
theorem lore_okf16 : lore.okf 16 = true := by rfl
theorem lore_ext16 : lore.ext 16 = none := by rfl
theorem lore_okf17 : lore.okf 17 = true := by rfl
theorem lore_ext17 : lore.ext 17 = none := by rfl
theorem lore_okf18 : lore.okf 18 = true := by rfl
theorem lore_ext18 : lore.ext 18 = none := by rfl
theorem lore_okf19 : lore.okf 19 = true := by rfl
theorem lore_ext19 : lore.ext 19 = none := by rfl
theorem lore_okf20 : lore.okf 20 = true := by rfl
theorem lore_ext20 : lore.ext 20 = none := by rfl
theorem lore_okf21 : lore.okf 21 = true := by rfl
theorem lore_ext21 : lore.ext 21 = none := by rfl
theorem lore_okf22 : lore.okf 22 = true := by rfl
theorem lore_ext22 : lore.ext 22 = none := by rfl
theorem lore_okf23 : lore.okf 23 = true := by rfl
theorem lore_ext23 : lore.ext 23 = none := by rfl
theorem lore_okf24 : lore.okf 24 = true := by rfl
theorem lore_ext24 : lore.ext 24 = none := by rfl
theorem lore_okf25 : lore.okf 25 = true := by rfl
theorem lore_ext25 : lore.ext 25 = none := by rfl
theorem lore_okf26 : lore.okf 26 = true := by rfl
theorem lore_ext26 : lore.ext 26 = none := by rfl
theorem lore_okf27 : lore.okf 27 = true := by rfl
theorem lore_ext27 : lore.ext 27 = none := by rfl
theorem lore_okf28 : lore.okf 28 = true := by rfl
theorem lore_ext28 : lore.ext 28 = none := by rfl
theorem lore_okf29 : lore.okf 29 = true := by rfl
theorem lore_ext29 : lore.ext 29 = none := by rfl
theorem lore_okf30 : lore.okf 30 = true := by rfl
theorem lore_ext30 : lore.ext 30 = none := by rfl
theorem lore_okf35 : lore.okf 35 = true := by rfl
theorem lore_ext35 : lore.ext 35 = none := by rfl
theorem lore_okf36 : lore.okf 36 = true := by rfl
theorem lore_ext36 : lore.ext 36 = none := by rfl
theorem lore_okf37 : lore.okf 37 = true := by rfl
theorem lore_ext37 : lore.ext 37 = none := by rfl
theorem lore_okf38 : lore.okf 38 = true := by rfl
theorem lore_ext38 : lore.ext 38 = none := by rfl
theorem lore_okf39 : lore.okf 39 = true := by rfl
theorem lore_ext39 : lore.ext 39 = none := by rfl
theorem lore_okf40 : lore.okf 40 = true := by rfl
theorem lore_ext40 : lore.ext 40 = none := by rfl
theorem lore_okf41 : lore.okf 41 = true := by rfl
theorem lore_ext41 : lore.ext 41 = none := by rfl
theorem lore_okf43 : lore.okf 43 = true := by rfl
theorem lore_ext43 : lore.ext 43 = none := by rfl
theorem lore_okf44 : lore.okf 44 = true := by rfl
theorem lore_ext44 : lore.ext 44 = none := by rfl
theorem lore_okf45 : lore.okf 45 = true := by rfl
theorem lore_ext45 : lore.ext 45 = none := by rfl
theorem lore_okf46 : lore.okf 46 = true := by rfl
theorem lore_ext46 : lore.ext 46 = none := by rfl
theorem lore_okf47 : lore.okf 47 = true := by rfl
theorem lore_ext47 : lore.ext 47 = none := by rfl
theorem lore_okf48 : lore.okf 48 = true := by rfl
theorem lore_ext48 : lore.ext 48 = none := by rfl
theorem lore_okf49 : lore.okf 49 = true := by rfl
theorem lore_ext49 : lore.ext 49 = none := by rfl
theorem lore_okf50 : lore.okf 50 = true := by rfl
theorem lore_ext50 : lore.ext 50 = none := by rfl
theorem lore_okf51 : lore.okf 51 = true := by rfl
theorem lore_ext51 : lore.ext 51 = none := by rfl
theorem lore_okf52 : lore.okf 52 = true := by rfl
theorem lore_ext52 : lore.ext 52 = none := by rfl
theorem lore_okf54 : lore.okf 54 = true := by rfl
theorem lore_ext54 : lore.ext 54 = none := by rfl
theorem lore_okf55 : lore.okf 55 = true := by rfl
theorem lore_ext55 : lore.ext 55 = none := by rfl
theorem lore_okf57 : lore.okf 57 = true := by rfl
theorem lore_ext57 : lore.ext 57 = none := by rfl
theorem lore_okf59 : lore.okf 59 = true := by rfl
theorem lore_ext59 : lore.ext 59 = none := by rfl
theorem lore_okf76 : lore.okf 76 = true := by rfl
theorem lore_ext76 : lore.ext 76 = none := by rfl
theorem lore_okf77 : lore.okf 77 = true := by rfl
theorem lore_ext77 : lore.ext 77 = none := by rfl
theorem lore_okf78 : lore.okf 78 = true := by rfl
theorem lore_ext78 : lore.ext 78 = none := by rfl
theorem lore_okf79 : lore.okf 79 = true := by rfl
theorem lore_ext79 : lore.ext 79 = none := by rfl
theorem lore_okf80 : lore.okf 80 = true := by rfl
theorem lore_ext80 : lore.ext 80 = none := by rfl
theorem lore_okf81 : lore.okf 81 = true := by rfl
theorem lore_ext81 : lore.ext 81 = none := by rfl
theorem lore_okf82 : lore.okf 82 = true := by rfl
theorem lore_ext82 : lore.ext 82 = none := by rfl
theorem lore_okf83 : lore.okf 83 = true := by rfl
theorem lore_ext83 : lore.ext 83 = none := by rfl
theorem lore_okf85 : lore.okf 85 = true := by rfl
theorem lore_ext85 : lore.ext 85 = none := by rfl
theorem lore_okf86 : lore.okf 86 = true := by rfl
theorem lore_ext86 : lore.ext 86 = none := by rfl
theorem lore_okf88 : lore.okf 88 = true := by rfl
theorem lore_ext88 : lore.ext 88 = none := by rfl
theorem lore_okf89 : lore.okf 89 = true := by rfl
theorem lore_ext89 : lore.ext 89 = none := by rfl
theorem lore_okf90 : lore.okf 90 = true := by rfl
theorem lore_ext90 : lore.ext 90 = none := by rfl
theorem lore_okf91 : lore.okf 91 = true := by rfl
theorem lore_ext91 : lore.ext 91 = none := by rfl
theorem lore_okf92 : lore.okf 92 = true := by rfl
theorem lore_ext92 : lore.ext 92 = none := by rfl
theorem lore_okf93 : lore.okf 93 = true := by rfl
theorem lore_ext93 : lore.ext 93 = none := by rfl
theorem lore_okf94 : lore.okf 94 = true := by rfl
theorem lore_ext94 : lore.ext 94 = none := by rfl
theorem lore_okf95 : lore.okf 95 = true := by rfl
theorem lore_ext95 : lore.ext 95 = none := by rfl
theorem lore_okf96 : lore.okf 96 = true := by rfl
theorem lore_ext96 : lore.ext 96 = none := by rfl
theorem lore_okf98 : lore.okf 98 = true := by rfl
theorem lore_ext98 : lore.ext 98 = none := by rfl
theorem lore_okf109 : lore.okf 109 = true := by rfl
theorem lore_ext109 : lore.ext 109 = none := by rfl
theorem lore_okf114 : lore.okf 114 = true := by rfl
theorem lore_ext114 : lore.ext 114 = none := by rfl
theorem lore_okf115 : lore.okf 115 = true := by rfl
theorem lore_ext115 : lore.ext 115 = none := by rfl
theorem lore_okf116 : lore.okf 116 = true := by rfl
theorem lore_ext116 : lore.ext 116 = none := by rfl
theorem lore_okf117 : lore.okf 117 = true := by rfl
theorem lore_ext117 : lore.ext 117 = none := by rfl
theorem lore_okf118 : lore.okf 118 = true := by rfl
theorem lore_ext118 : lore.ext 118 = none := by rfl
theorem lore_okf119 : lore.okf 119 = true := by rfl
theorem lore_ext119 : lore.ext 119 = none := by rfl
theorem lore_okf120 : lore.okf 120 = true := by rfl
theorem lore_ext120 : lore.ext 120 = none := by rfl
theorem lore_okf121 : lore.okf 121 = true := by rfl
theorem lore_ext121 : lore.ext 121 = none := by rfl
theorem lore_okf132 : lore.okf 132 = true := by rfl
theorem lore_ext132 : lore.ext 132 = none := by rfl
theorem lore_okf137 : lore.okf 137 = true := by rfl
theorem lore_ext137 : lore.ext 137 = none := by rfl
theorem lore_okf138 : lore.okf 138 = true := by rfl
theorem lore_ext138 : lore.ext 138 = none := by rfl
theorem lore_okf139 : lore.okf 139 = true := by rfl
theorem lore_ext139 : lore.ext 139 = none := by rfl
theorem lore_okf140 : lore.okf 140 = true := by rfl
theorem lore_ext140 : lore.ext 140 = none := by rfl
theorem lore_okf141 : lore.okf 141 = true := by rfl
theorem lore_ext141 : lore.ext 141 = none := by rfl
theorem lore_okf142 : lore.okf 142 = true := by rfl
theorem lore_ext142 : lore.ext 142 = none := by rfl
theorem lore_okf143 : lore.okf 143 = true := by rfl
theorem lore_ext143 : lore.ext 143 = none := by rfl
theorem lore_okf144 : lore.okf 144 = true := by rfl
theorem lore_ext144 : lore.ext 144 = none := by rfl
theorem lore_okf145 : lore.okf 145 = true := by rfl
theorem lore_ext145 : lore.ext 145 = none := by rfl
theorem lore_okf146 : lore.okf 146 = true := by rfl
theorem lore_ext146 : lore.ext 146 = none := by rfl
theorem lore_okf147 : lore.okf 147 = true := by rfl
theorem lore_ext147 : lore.ext 147 = none := by rfl
theorem lore_okf148 : lore.okf 148 = true := by rfl
theorem lore_ext148 : lore.ext 148 = none := by rfl
theorem lore_okf160 : lore.okf 160 = true := by rfl
theorem lore_ext160 : lore.ext 160 = none := by rfl
theorem lore_okf161 : lore.okf 161 = true := by rfl
theorem lore_ext161 : lore.ext 161 = none := by rfl
theorem lore_okf162 : lore.okf 162 = true := by rfl
theorem lore_ext162 : lore.ext 162 = none := by rfl
theorem lore_okf163 : lore.okf 163 = true := by rfl
theorem lore_ext163 : lore.ext 163 = none := by rfl
theorem res4 : Tryd.f4.results.toList = [.tmp 6] := by rfl
theorem res5 : Tryd.f5.results.toList = [.tmp 6] := by rfl
theorem res7 : Tryd.f7.results.toList = [.tmp 0] := by rfl
theorem res8 : Tryd.f8.results.toList = [.tmp 6, .tmp 7] := by rfl
theorem res9 : Tryd.f9.results.toList = [.tmp 4, .tmp 5] := by rfl
theorem res10 : Tryd.f10.results.toList = [.cell 2 39, .tmp 3] := by rfl
theorem res11 : Tryd.f11.results.toList = [.tmp 2] := by rfl
theorem res12 : Tryd.f12.results.toList = [.tmp 2] := by rfl
theorem res13 : Tryd.f13.results.toList = [.tmp 2] := by rfl
theorem res14 : Tryd.f14.results.toList = [.tmp 2] := by rfl
theorem res15 : Tryd.f15.results.toList = [.tmp 2, .tmp 3] := by rfl
theorem res16 : Tryd.f16.results.toList = [.tmp 4, .tmp 5] := by rfl
theorem res17 : Tryd.f17.results.toList = [.tmp 2, .tmp 3] := by rfl
theorem res18 : Tryd.f18.results.toList = [.tmp 2] := by rfl
theorem res19 : Tryd.f19.results.toList = [.tmp 2, .tmp 3] := by rfl
theorem res20 : Tryd.f20.results.toList = [.tmp 4, .tmp 5, .tmp 6] := by rfl
theorem res21 : Tryd.f21.results.toList = [.tmp 2, .tmp 3] := by rfl
theorem res22 : Tryd.f22.results.toList = [.tmp 0] := by rfl
theorem res23 : Tryd.f23.results.toList = [.tmp 4, .tmp 5] := by rfl
theorem res24 : Tryd.f24.results.toList = [.tmp 4, .tmp 5] := by rfl
theorem res25 : Tryd.f25.results.toList = [.tmp 2] := by rfl
theorem res26 : Tryd.f26.results.toList = [.cell 2 39, .tmp 3] := by rfl
theorem res27 : Tryd.f27.results.toList = [.tmp 2, .tmp 3, .tmp 4] := by rfl
theorem res28 : Tryd.f28.results.toList = [.cell 2 39, .tmp 3] := by rfl
theorem res29 : Tryd.f29.results.toList = [.cell 2 84] := by rfl
theorem res30 : Tryd.f30.results.toList = [.tmp 2, .tmp 3] := by rfl
theorem res35 : Tryd.f35.results.toList = [.tmp 2, .tmp 3] := by rfl
theorem res36 : Tryd.f36.results.toList = [.tmp 2, .tmp 3] := by rfl
theorem res37 : Tryd.f37.results.toList = [.tmp 6] := by rfl
theorem res38 : Tryd.f38.results.toList = [.tmp 4] := by rfl
theorem res39 : Tryd.f39.results.toList = [.tmp 6] := by rfl
theorem res40 : Tryd.f40.results.toList = [] := by rfl
theorem res41 : Tryd.f41.results.toList = [.cell 2 39] := by rfl
theorem res43 : Tryd.f43.results.toList = [.cell 2 39] := by rfl
theorem res44 : Tryd.f44.results.toList = [.tmp 2] := by rfl
theorem res45 : Tryd.f45.results.toList = [.tmp 4, .tmp 5] := by rfl
theorem res46 : Tryd.f46.results.toList = [.cell 2 128, .tmp 3] := by rfl
theorem res47 : Tryd.f47.results.toList = [.tmp 4] := by rfl
theorem res48 : Tryd.f48.results.toList = [.tmp 4, .tmp 5] := by rfl
theorem res49 : Tryd.f49.results.toList = [.tmp 4, .tmp 5] := by rfl
theorem res50 : Tryd.f50.results.toList = [.cell 2 39] := by rfl
theorem res51 : Tryd.f51.results.toList = [.tmp 4] := by rfl
theorem res52 : Tryd.f52.results.toList = [.tmp 2] := by rfl
theorem res54 : Tryd.f54.results.toList = [.cell 4 39, .tmp 5] := by rfl
theorem res55 : Tryd.f55.results.toList = [] := by rfl
theorem res57 : Tryd.f57.results.toList = [.tmp 2] := by rfl
theorem res59 : Tryd.f59.results.toList = [.tmp 2] := by rfl
theorem res76 : Tryd.f76.results.toList = [.tmp 0] := by rfl
theorem res77 : Tryd.f77.results.toList = [.tmp 4] := by rfl
theorem res78 : Tryd.f78.results.toList = [.tmp 4] := by rfl
theorem res79 : Tryd.f79.results.toList = [.tmp 4] := by rfl
theorem res80 : Tryd.f80.results.toList = [.tmp 2] := by rfl
theorem res81 : Tryd.f81.results.toList = [] := by rfl
theorem res82 : Tryd.f82.results.toList = [.cell 2 39] := by rfl
theorem res83 : Tryd.f83.results.toList = [.cell 10 39] := by rfl
theorem res85 : Tryd.f85.results.toList = [] := by rfl
theorem res86 : Tryd.f86.results.toList = [.cell 2 39] := by rfl
theorem res88 : Tryd.f88.results.toList = [.tmp 4, .tmp 5] := by rfl
theorem res89 : Tryd.f89.results.toList = [.tmp 2] := by rfl
theorem res90 : Tryd.f90.results.toList = [.cell 2 39, .tmp 3] := by rfl
theorem res91 : Tryd.f91.results.toList = [.tmp 2, .tmp 3] := by rfl
theorem res92 : Tryd.f92.results.toList = [.cell 10 39] := by rfl
theorem res93 : Tryd.f93.results.toList = [.cell 2 39] := by rfl
theorem res94 : Tryd.f94.results.toList = [.cell 2 39] := by rfl
theorem res95 : Tryd.f95.results.toList = [.cell 4 39] := by rfl
theorem res96 : Tryd.f96.results.toList = [.cell 2 87] := by rfl
theorem res98 : Tryd.f98.results.toList = [.tmp 2] := by rfl
theorem res109 : Tryd.f109.results.toList = [.tmp 4] := by rfl
theorem res114 : Tryd.f114.results.toList = [.cell 2 39] := by rfl
theorem res115 : Tryd.f115.results.toList = [.cell 2 39] := by rfl
theorem res116 : Tryd.f116.results.toList = [.cell 2 39] := by rfl
theorem res117 : Tryd.f117.results.toList = [.cell 2 39] := by rfl
theorem res118 : Tryd.f118.results.toList = [.cell 2 39] := by rfl
theorem res119 : Tryd.f119.results.toList = [.cell 2 39] := by rfl
theorem res120 : Tryd.f120.results.toList = [.tmp 4] := by rfl
theorem res121 : Tryd.f121.results.toList = [.tmp 6] := by rfl
theorem res132 : Tryd.f132.results.toList = [.tmp 2] := by rfl
theorem res137 : Tryd.f137.results.toList = [.cell 10 39] := by rfl
theorem res138 : Tryd.f138.results.toList = [.cell 2 39] := by rfl
theorem res139 : Tryd.f139.results.toList = [.tmp 6] := by rfl
theorem res140 : Tryd.f140.results.toList = [] := by rfl
theorem res141 : Tryd.f141.results.toList = [] := by rfl
theorem res142 : Tryd.f142.results.toList = [.tmp 2] := by rfl
theorem res143 : Tryd.f143.results.toList = [.tmp 8] := by rfl
theorem res144 : Tryd.f144.results.toList = [] := by rfl
theorem res145 : Tryd.f145.results.toList = [.tmp 2] := by rfl
theorem res146 : Tryd.f146.results.toList = [.tmp 2] := by rfl
theorem res147 : Tryd.f147.results.toList = [] := by rfl
theorem res148 : Tryd.f148.results.toList = [.cell 2 39] := by rfl
theorem res160 : Tryd.f160.results.toList = [.cell 5 39] := by rfl
theorem res161 : Tryd.f161.results.toList = [.cell 4 39] := by rfl
theorem res162 : Tryd.f162.results.toList = [] := by rfl
theorem res163 : Tryd.f163.results.toList = [.cell 6 39] := by rfl
theorem ntm4 : Tryd.f4.ntmps = 120 := by rfl
theorem ntm5 : Tryd.f5.ntmps = 252 := by rfl
theorem ntm7 : Tryd.f7.ntmps = 37 := by rfl
theorem ntm8 : Tryd.f8.ntmps = 34 := by rfl
theorem ntm9 : Tryd.f9.ntmps = 61 := by rfl
theorem ntm10 : Tryd.f10.ntmps = 26 := by rfl
theorem ntm11 : Tryd.f11.ntmps = 16 := by rfl
theorem ntm12 : Tryd.f12.ntmps = 12 := by rfl
theorem ntm13 : Tryd.f13.ntmps = 10 := by rfl
theorem ntm14 : Tryd.f14.ntmps = 12 := by rfl
theorem ntm15 : Tryd.f15.ntmps = 21 := by rfl
theorem ntm16 : Tryd.f16.ntmps = 26 := by rfl
theorem ntm17 : Tryd.f17.ntmps = 8 := by rfl
theorem ntm18 : Tryd.f18.ntmps = 11 := by rfl
theorem ntm19 : Tryd.f19.ntmps = 8 := by rfl
theorem ntm20 : Tryd.f20.ntmps = 36 := by rfl
theorem ntm21 : Tryd.f21.ntmps = 23 := by rfl
theorem ntm22 : Tryd.f22.ntmps = 10 := by rfl
theorem ntm23 : Tryd.f23.ntmps = 30 := by rfl
theorem ntm24 : Tryd.f24.ntmps = 20 := by rfl
theorem ntm25 : Tryd.f25.ntmps = 11 := by rfl
theorem ntm26 : Tryd.f26.ntmps = 23 := by rfl
theorem ntm27 : Tryd.f27.ntmps = 19 := by rfl
theorem ntm28 : Tryd.f28.ntmps = 53 := by rfl
theorem ntm29 : Tryd.f29.ntmps = 23 := by rfl
theorem ntm30 : Tryd.f30.ntmps = 17 := by rfl
theorem ntm35 : Tryd.f35.ntmps = 14 := by rfl
theorem ntm36 : Tryd.f36.ntmps = 38 := by rfl
theorem ntm37 : Tryd.f37.ntmps = 16 := by rfl
theorem ntm38 : Tryd.f38.ntmps = 13 := by rfl
theorem ntm39 : Tryd.f39.ntmps = 29 := by rfl
theorem ntm40 : Tryd.f40.ntmps = 15 := by rfl
theorem ntm41 : Tryd.f41.ntmps = 29 := by rfl
theorem ntm43 : Tryd.f43.ntmps = 43 := by rfl
theorem ntm44 : Tryd.f44.ntmps = 22 := by rfl
theorem ntm45 : Tryd.f45.ntmps = 26 := by rfl
theorem ntm46 : Tryd.f46.ntmps = 53 := by rfl
theorem ntm47 : Tryd.f47.ntmps = 40 := by rfl
theorem ntm48 : Tryd.f48.ntmps = 26 := by rfl
theorem ntm49 : Tryd.f49.ntmps = 49 := by rfl
theorem ntm50 : Tryd.f50.ntmps = 34 := by rfl
theorem ntm51 : Tryd.f51.ntmps = 64 := by rfl
theorem ntm52 : Tryd.f52.ntmps = 10 := by rfl
theorem ntm54 : Tryd.f54.ntmps = 70 := by rfl
theorem ntm55 : Tryd.f55.ntmps = 14 := by rfl
theorem ntm57 : Tryd.f57.ntmps = 8 := by rfl
theorem ntm59 : Tryd.f59.ntmps = 9 := by rfl
theorem ntm76 : Tryd.f76.ntmps = 8 := by rfl
theorem ntm77 : Tryd.f77.ntmps = 8 := by rfl
theorem ntm78 : Tryd.f78.ntmps = 19 := by rfl
theorem ntm79 : Tryd.f79.ntmps = 10 := by rfl
theorem ntm80 : Tryd.f80.ntmps = 7 := by rfl
theorem ntm81 : Tryd.f81.ntmps = 9 := by rfl
theorem ntm82 : Tryd.f82.ntmps = 22 := by rfl
theorem ntm83 : Tryd.f83.ntmps = 36 := by rfl
theorem ntm85 : Tryd.f85.ntmps = 11 := by rfl
theorem ntm86 : Tryd.f86.ntmps = 14 := by rfl
theorem ntm88 : Tryd.f88.ntmps = 34 := by rfl
theorem ntm89 : Tryd.f89.ntmps = 11 := by rfl
theorem ntm90 : Tryd.f90.ntmps = 23 := by rfl
theorem ntm91 : Tryd.f91.ntmps = 14 := by rfl
theorem ntm92 : Tryd.f92.ntmps = 30 := by rfl
theorem ntm93 : Tryd.f93.ntmps = 15 := by rfl
theorem ntm94 : Tryd.f94.ntmps = 27 := by rfl
theorem ntm95 : Tryd.f95.ntmps = 74 := by rfl
theorem ntm96 : Tryd.f96.ntmps = 9 := by rfl
theorem ntm98 : Tryd.f98.ntmps = 19 := by rfl
theorem ntm109 : Tryd.f109.ntmps = 54 := by rfl
theorem ntm114 : Tryd.f114.ntmps = 15 := by rfl
theorem ntm115 : Tryd.f115.ntmps = 6 := by rfl
theorem ntm116 : Tryd.f116.ntmps = 6 := by rfl
theorem ntm117 : Tryd.f117.ntmps = 6 := by rfl
theorem ntm118 : Tryd.f118.ntmps = 13 := by rfl
theorem ntm119 : Tryd.f119.ntmps = 15 := by rfl
theorem ntm120 : Tryd.f120.ntmps = 10 := by rfl
theorem ntm121 : Tryd.f121.ntmps = 13 := by rfl
theorem ntm132 : Tryd.f132.ntmps = 15 := by rfl
theorem ntm137 : Tryd.f137.ntmps = 30 := by rfl
theorem ntm138 : Tryd.f138.ntmps = 28 := by rfl
theorem ntm139 : Tryd.f139.ntmps = 8 := by rfl
theorem ntm140 : Tryd.f140.ntmps = 27 := by rfl
theorem ntm141 : Tryd.f141.ntmps = 17 := by rfl
theorem ntm142 : Tryd.f142.ntmps = 7 := by rfl
theorem ntm143 : Tryd.f143.ntmps = 10 := by rfl
theorem ntm144 : Tryd.f144.ntmps = 16 := by rfl
theorem ntm145 : Tryd.f145.ntmps = 7 := by rfl
theorem ntm146 : Tryd.f146.ntmps = 8 := by rfl
theorem ntm147 : Tryd.f147.ntmps = 26 := by rfl
theorem ntm148 : Tryd.f148.ntmps = 21 := by rfl
theorem ntm160 : Tryd.f160.ntmps = 20 := by rfl
theorem ntm161 : Tryd.f161.ntmps = 18 := by rfl
theorem ntm162 : Tryd.f162.ntmps = 14 := by rfl
theorem ntm163 : Tryd.f163.ntmps = 26 := by rfl
theorem lore_keep4_11 : lore.keep 4 11 = [0, 6, 7, 9, 10, 51, 52, 53] := by rfl
theorem lore_keep5_11 : lore.keep 5 11 = [0, 2, 6, 7, 9, 10, 61, 62, 63] := by rfl
theorem lore_keep5_24 : lore.keep 5 24 = [0, 6, 7, 9, 10, 15, 16, 17, 101, 102, 103] := by rfl
theorem lore_keep5_32 : lore.keep 5 32 = [0, 6, 7, 9, 10, 15, 17, 27, 28, 29, 101, 102, 103, 124, 125, 126] := by rfl
theorem lore_keep36_7 : lore.keep 36 7 = [0, 4, 13, 14, 15] := by rfl
theorem lore_keep44_3 : lore.keep 44 3 = [0, 3, 6, 7] := by rfl
theorem lore_keep45_2 : lore.keep 45 2 = [6, 7] := by rfl
theorem lore_keep46_5 : lore.keep 46 5 = [1, 2, 4, 38, 39] := by rfl
theorem lore_keep48_4 : lore.keep 48 4 = [6] := by rfl
theorem lore_keep95_13 : lore.keep 95 13 = [0, 3, 4, 5] := by rfl
theorem lore_keep98_3 : lore.keep 98 3 = [3, 6, 7, 8] := by rfl
set_option maxRecDepth 100000 in
theorem okf_all : (okfTab.all fun g => match Tryd.prog.funcs[g]? with | some fn => !(fn.name == "runtime.NumGoroutine") && (match fn.body with | some b => codeOk lore.toEnv g b | none => true) | none => true) = true := by kernel_rfl
theorem follows_mixed : Tryd.prog.follows .mixedOrders = true := by kernel_rfl
theorem okf_fns (g : Nat) (fn : Func) (b : Code) (h : lore.okf g = true) (hf : lore.P.funcs[g]? = some fn) (hb : fn.body = some b) : (fn.name == "runtime.NumGoroutine") = false ∧ codeOk lore.toEnv g b = true := by
  have := List.all_eq_true.1 okf_all g (by simpa [lore] using h)
  rw [show Tryd.prog.funcs[g]? = some fn from hf] at this
  simp only [hb, Bool.and_eq_true, Bool.not_eq_true'] at this
  exact this
theorem lore_blind4 : lore.blind 4 = [] := by rfl
theorem lore_blind5 : lore.blind 5 = [] := by rfl
theorem lore_blind7 : lore.blind 7 = [] := by rfl
theorem lore_blind8 : lore.blind 8 = [] := by rfl
theorem lore_blind9 : lore.blind 9 = [] := by rfl
theorem lore_blind10 : lore.blind 10 = [] := by rfl
theorem lore_blind11 : lore.blind 11 = [] := by rfl
theorem lore_blind12 : lore.blind 12 = [] := by rfl
theorem lore_blind13 : lore.blind 13 = [] := by rfl
theorem lore_blind14 : lore.blind 14 = [] := by rfl
theorem lore_blind15 : lore.blind 15 = [] := by rfl
theorem lore_blind16 : lore.blind 16 = [] := by rfl
theorem lore_blind17 : lore.blind 17 = [] := by rfl
theorem lore_blind18 : lore.blind 18 = [] := by rfl
theorem lore_blind19 : lore.blind 19 = [] := by rfl
theorem lore_blind20 : lore.blind 20 = [] := by rfl
theorem lore_blind21 : lore.blind 21 = [] := by rfl
theorem lore_blind22 : lore.blind 22 = [] := by rfl
theorem lore_blind23 : lore.blind 23 = [] := by rfl
theorem lore_blind24 : lore.blind 24 = [] := by rfl
theorem lore_blind25 : lore.blind 25 = [] := by rfl
theorem lore_blind26 : lore.blind 26 = [] := by rfl
theorem lore_blind27 : lore.blind 27 = [] := by rfl
theorem lore_blind28 : lore.blind 28 = [] := by rfl
theorem lore_blind29 : lore.blind 29 = [] := by rfl
theorem lore_blind30 : lore.blind 30 = [] := by rfl
theorem lore_blind35 : lore.blind 35 = [] := by rfl
theorem lore_blind36 : lore.blind 36 = [] := by rfl
theorem lore_blind37 : lore.blind 37 = [] := by rfl
theorem lore_blind38 : lore.blind 38 = [] := by rfl
theorem lore_blind39 : lore.blind 39 = [] := by rfl
theorem lore_blind40 : lore.blind 40 = [] := by rfl
theorem lore_blind41 : lore.blind 41 = [] := by rfl
theorem lore_blind43 : lore.blind 43 = [] := by rfl
theorem lore_blind44 : lore.blind 44 = [] := by rfl
theorem lore_blind45 : lore.blind 45 = [] := by rfl
theorem lore_blind46 : lore.blind 46 = [] := by rfl
theorem lore_blind47 : lore.blind 47 = [] := by rfl
theorem lore_blind48 : lore.blind 48 = [] := by rfl
theorem lore_blind49 : lore.blind 49 = [] := by rfl
theorem lore_blind50 : lore.blind 50 = [] := by rfl
theorem lore_blind51 : lore.blind 51 = [] := by rfl
theorem lore_blind52 : lore.blind 52 = [] := by rfl
theorem lore_blind54 : lore.blind 54 = [] := by rfl
theorem lore_blind55 : lore.blind 55 = [] := by rfl
theorem lore_blind57 : lore.blind 57 = [] := by rfl
theorem lore_blind59 : lore.blind 59 = [] := by rfl
theorem lore_blind76 : lore.blind 76 = [] := by rfl
theorem lore_blind77 : lore.blind 77 = [] := by rfl
theorem lore_blind78 : lore.blind 78 = [] := by rfl
theorem lore_blind79 : lore.blind 79 = [] := by rfl
theorem lore_blind80 : lore.blind 80 = [] := by rfl
theorem lore_blind81 : lore.blind 81 = [] := by rfl
theorem lore_blind82 : lore.blind 82 = [] := by rfl
theorem lore_blind83 : lore.blind 83 = [] := by rfl
theorem lore_blind85 : lore.blind 85 = [] := by rfl
theorem lore_blind86 : lore.blind 86 = [] := by rfl
theorem lore_blind88 : lore.blind 88 = [] := by rfl
theorem lore_blind89 : lore.blind 89 = [] := by rfl
theorem lore_blind90 : lore.blind 90 = [22] := by rfl
theorem lore_blind91 : lore.blind 91 = [] := by rfl
theorem lore_blind92 : lore.blind 92 = [] := by rfl
theorem lore_blind93 : lore.blind 93 = [] := by rfl
theorem lore_blind94 : lore.blind 94 = [] := by rfl
theorem lore_blind95 : lore.blind 95 = [] := by rfl
theorem lore_blind96 : lore.blind 96 = [] := by rfl
theorem lore_blind98 : lore.blind 98 = [] := by rfl
theorem lore_blind109 : lore.blind 109 = [] := by rfl
theorem lore_blind114 : lore.blind 114 = [] := by rfl
theorem lore_blind115 : lore.blind 115 = [] := by rfl
theorem lore_blind116 : lore.blind 116 = [] := by rfl
theorem lore_blind117 : lore.blind 117 = [] := by rfl
theorem lore_blind118 : lore.blind 118 = [] := by rfl
theorem lore_blind119 : lore.blind 119 = [] := by rfl
theorem lore_blind120 : lore.blind 120 = [] := by rfl
theorem lore_blind121 : lore.blind 121 = [] := by rfl
theorem lore_blind132 : lore.blind 132 = [] := by rfl
theorem lore_blind137 : lore.blind 137 = [] := by rfl
theorem lore_blind138 : lore.blind 138 = [] := by rfl
theorem lore_blind139 : lore.blind 139 = [] := by rfl
theorem lore_blind140 : lore.blind 140 = [] := by rfl
theorem lore_blind141 : lore.blind 141 = [] := by rfl
theorem lore_blind142 : lore.blind 142 = [] := by rfl
theorem lore_blind143 : lore.blind 143 = [] := by rfl
theorem lore_blind144 : lore.blind 144 = [] := by rfl
theorem lore_blind145 : lore.blind 145 = [] := by rfl
theorem lore_blind146 : lore.blind 146 = [] := by rfl
theorem lore_blind147 : lore.blind 147 = [] := by rfl
theorem lore_blind148 : lore.blind 148 = [] := by rfl
theorem lore_blind160 : lore.blind 160 = [] := by rfl
theorem lore_blind161 : lore.blind 161 = [] := by rfl
theorem lore_blind162 : lore.blind 162 = [] := by rfl
theorem lore_blind163 : lore.blind 163 = [] := by rfl
theorem lore_G0 : lore.G 0 = some ([.bool false, .bool false, .bool false, .bool false, .bool false, .bool true, .bool false, .bool true, .bool false, .bool true, .bool true, .bool true]) := by rfl
noncomputable def lors := (And.intro (And.intro (And.intro (And.intro (And.intro (And.intro (And.intro (And.intro @lore_P @lore_imm) (And.intro @lore_blind4 @lore_blind5)) (And.intro (And.intro @lore_blind7 @lore_blind8) (And.intro @lore_blind9 (And.intro @lore_blind10 @lore_blind11)))) (And.intro (And.intro (And.intro @lore_blind12 @lore_blind13) (And.intro @lore_blind14 @lore_blind15)) (And.intro (And.intro @lore_blind16 @lore_blind17) (And.intro @lore_blind18 (And.intro @lore_blind19 @lore_blind20))))) (And.intro (And.intro (And.intro (And.intro @lore_blind21 @lore_blind22) (And.intro @lore_blind23 @lore_blind24)) (And.intro (And.intro @lore_blind25 @lore_blind26) (And.intro @lore_blind27 (And.intro @lore_blind28 @lore_blind29)))) (And.intro (And.intro (And.intro @lore_blind30 @lore_blind35) (And.intro @lore_blind36 @lore_blind37)) (And.intro (And.intro @lore_blind38 @lore_blind39) (And.intro @lore_blind40 (And.intro @lore_blind41 @lore_blind43)))))) (And.intro (And.intro (And.intro (And.intro (And.intro @lore_blind44 @lore_blind45) (And.intro @lore_blind46 @lore_blind47)) (And.intro (And.intro @lore_blind48 @lore_blind49) (And.intro @lore_blind50 (And.intro @lore_blind51 @lore_blind52)))) (And.intro (And.intro (And.intro @lore_blind54 @lore_blind55) (And.intro @lore_blind57 @lore_blind59)) (And.intro (And.intro @lore_blind76 @lore_blind77) (And.intro @lore_blind78 (And.intro @lore_blind79 @lore_blind80))))) (And.intro (And.intro (And.intro (And.intro @lore_blind81 @lore_blind82) (And.intro @lore_blind83 @lore_blind85)) (And.intro (And.intro @lore_blind86 @lore_blind88) (And.intro @lore_blind89 (And.intro @lore_blind90 @lore_blind91)))) (And.intro (And.intro (And.intro @lore_blind92 @lore_blind93) (And.intro @lore_blind94 (And.intro @lore_blind95 @lore_blind96))) (And.intro (And.intro @lore_blind98 @lore_blind109) (And.intro @lore_blind114 (And.intro @lore_blind115 @lore_blind116))))))) (And.intro (And.intro (And.intro (And.intro (And.intro (And.intro @lore_blind117 @lore_blind118) (And.intro @lore_blind119 @lore_blind120)) (And.intro (And.intro @lore_blind121 @lore_blind132) (And.intro @lore_blind137 (And.intro @lore_blind138 @lore_blind139)))) (And.intro (And.intro (And.intro @lore_blind140 @lore_blind141) (And.intro @lore_blind142 @lore_blind143)) (And.intro (And.intro @lore_blind144 @lore_blind145) (And.intro @lore_blind146 (And.intro @lore_blind147 @lore_blind148))))) (And.intro (And.intro (And.intro (And.intro @lore_blind160 @lore_blind161) (And.intro @lore_blind162 @lore_blind163)) (And.intro (And.intro @res4 @res5) (And.intro @res7 (And.intro @res8 @res9)))) (And.intro (And.intro (And.intro @res10 @res11) (And.intro @res12 @res13)) (And.intro (And.intro @res14 @res15) (And.intro @res16 (And.intro @res17 @res18)))))) (And.intro (And.intro (And.intro (And.intro (And.intro @res19 @res20) (And.intro @res21 @res22)) (And.intro (And.intro @res23 @res24) (And.intro @res25 (And.intro @res26 @res27)))) (And.intro (And.intro (And.intro @res28 @res29) (And.intro @res30 @res35)) (And.intro (And.intro @res36 @res37) (And.intro @res38 (And.intro @res39 @res40))))) (And.intro (And.intro (And.intro (And.intro @res41 @res43) (And.intro @res44 @res45)) (And.intro (And.intro @res46 @res47) (And.intro @res48 (And.intro @res49 @res50)))) (And.intro (And.intro (And.intro @res51 @res52) (And.intro @res54 (And.intro @res55 @res57))) (And.intro (And.intro @res59 @res76) (And.intro @res77 (And.intro @res78 @res79)))))))) (And.intro (And.intro (And.intro (And.intro (And.intro (And.intro (And.intro @res80 @res81) (And.intro @res82 @res83)) (And.intro (And.intro @res85 @res86) (And.intro @res88 (And.intro @res89 @res90)))) (And.intro (And.intro (And.intro @res91 @res92) (And.intro @res93 @res94)) (And.intro (And.intro @res95 @res96) (And.intro @res98 (And.intro @res109 @res114))))) (And.intro (And.intro (And.intro (And.intro @res115 @res116) (And.intro @res117 @res118)) (And.intro (And.intro @res119 @res120) (And.intro @res121 (And.intro @res132 @res137)))) (And.intro (And.intro (And.intro @res138 @res139) (And.intro @res140 @res141)) (And.intro (And.intro @res142 @res143) (And.intro @res144 (And.intro @res145 @res146)))))) (And.intro (And.intro (And.intro (And.intro (And.intro @res147 @res148) (And.intro @res160 @res161)) (And.intro (And.intro @res162 @res163) (And.intro @ntm4 (And.intro @ntm5 @ntm7)))) (And.intro (And.intro (And.intro @ntm8 @ntm9) (And.intro @ntm10 @ntm11)) (And.intro (And.intro @ntm12 @ntm13) (And.intro @ntm14 (And.intro @ntm15 @ntm16))))) (And.intro (And.intro (And.intro (And.intro @ntm17 @ntm18) (And.intro @ntm19 @ntm20)) (And.intro (And.intro @ntm21 @ntm22) (And.intro @ntm23 (And.intro @ntm24 @ntm25)))) (And.intro (And.intro (And.intro @ntm26 @ntm27) (And.intro @ntm28 (And.intro @ntm29 @ntm30))) (And.intro (And.intro @ntm35 @ntm36) (And.intro @ntm37 (And.intro @ntm38 @ntm39))))))) (And.intro (And.intro (And.intro (And.intro (And.intro (And.intro @ntm40 @ntm41) (And.intro @ntm43 @ntm44)) (And.intro (And.intro @ntm45 @ntm46) (And.intro @ntm47 (And.intro @ntm48 @ntm49)))) (And.intro (And.intro (And.intro @ntm50 @ntm51) (And.intro @ntm52 @ntm54)) (And.intro (And.intro @ntm55 @ntm57) (And.intro @ntm59 (And.intro @ntm76 @ntm77))))) (And.intro (And.intro (And.intro (And.intro @ntm78 @ntm79) (And.intro @ntm80 @ntm81)) (And.intro (And.intro @ntm82 @ntm83) (And.intro @ntm85 (And.intro @ntm86 @ntm88)))) (And.intro (And.intro (And.intro @ntm89 @ntm90) (And.intro @ntm91 (And.intro @ntm92 @ntm93))) (And.intro (And.intro @ntm94 @ntm95) (And.intro @ntm96 (And.intro @ntm98 @ntm109)))))) (And.intro (And.intro (And.intro (And.intro (And.intro @ntm114 @ntm115) (And.intro @ntm116 @ntm117)) (And.intro (And.intro @ntm118 @ntm119) (And.intro @ntm120 (And.intro @ntm121 @ntm132)))) (And.intro (And.intro (And.intro @ntm137 @ntm138) (And.intro @ntm139 @ntm140)) (And.intro (And.intro @ntm141 @ntm142) (And.intro @ntm143 (And.intro @ntm144 @ntm145))))) (And.intro (And.intro (And.intro (And.intro @ntm146 @ntm147) (And.intro @ntm148 @ntm160)) (And.intro (And.intro @ntm161 @ntm162) (And.intro @ntm163 (And.intro @lore_keep4_11 @lore_keep5_11)))) (And.intro (And.intro (And.intro @lore_keep5_24 @lore_keep5_32) (And.intro @lore_keep36_7 (And.intro @lore_keep44_3 @lore_keep45_2))) (And.intro (And.intro @lore_keep46_5 @lore_keep48_4) (And.intro @lore_keep95_13 (And.intro @lore_keep98_3 @lore_G0)))))))))
end Go.Proofs.YthpfimildcbgmaaDoor
