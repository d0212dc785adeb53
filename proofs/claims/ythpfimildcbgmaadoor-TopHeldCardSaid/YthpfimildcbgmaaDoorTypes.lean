/-
Facts on the program's types.
-/
import Derived.Test.YthpfimildcbgmaaDoorEvBun
import Derived.Test.YthpfimildcbgmaaDoorProg
import Derived.KernelRfl
namespace Go.Proofs.YthpfimildcbgmaaDoor
open Go Ev
set_option linter.all false
set_option linter.defProp false

theorem sz1 : sizeT Tryd.prog 1 = 1 := by kernel_rfl
theorem agg1 : aggT Tryd.prog 1 = some false := by kernel_rfl
theorem zero1 : zeroV Tryd.prog 1 = some (.nilf) := by kernel_rfl
theorem by1 : bytesT Tryd.prog 1 ≤ 1024 := of_decide_eq_true (by kernel_rfl)
theorem sz2 : sizeT Tryd.prog 2 = 1 := by kernel_rfl
theorem agg2 : aggT Tryd.prog 2 = some false := by kernel_rfl
theorem zero2 : zeroV Tryd.prog 2 = some (.int .i64 0) := by kernel_rfl
theorem by2 : bytesT Tryd.prog 2 ≤ 1024 := of_decide_eq_true (by kernel_rfl)
theorem sz3 : sizeT Tryd.prog 3 = 1 := by kernel_rfl
theorem agg3 : aggT Tryd.prog 3 = some false := by kernel_rfl
theorem zero3 : zeroV Tryd.prog 3 = some (.int .i64 0) := by kernel_rfl
theorem by3 : bytesT Tryd.prog 3 ≤ 1024 := of_decide_eq_true (by kernel_rfl)
theorem sz4 : sizeT Tryd.prog 4 = 1 := by kernel_rfl
theorem agg4 : aggT Tryd.prog 4 = some false := by kernel_rfl
theorem zero4 : zeroV Tryd.prog 4 = some (.bool false) := by kernel_rfl
theorem by4 : bytesT Tryd.prog 4 ≤ 1024 := of_decide_eq_true (by kernel_rfl)
theorem sz5 : sizeT Tryd.prog 5 = 1 := by kernel_rfl
theorem agg5 : aggT Tryd.prog 5 = some false := by kernel_rfl
theorem zero5 : zeroV Tryd.prog 5 = some (.int .u8 0) := by kernel_rfl
theorem by5 : bytesT Tryd.prog 5 ≤ 1024 := of_decide_eq_true (by kernel_rfl)
theorem sz6 : sizeT Tryd.prog 6 = 1 := by kernel_rfl
theorem agg6 : aggT Tryd.prog 6 = some false := by kernel_rfl
theorem zero6 : zeroV Tryd.prog 6 = some (.int .u8 0) := by kernel_rfl
theorem by6 : bytesT Tryd.prog 6 ≤ 1024 := of_decide_eq_true (by kernel_rfl)
theorem sz7 : sizeT Tryd.prog 7 = 4 := by kernel_rfl
theorem agg7 : aggT Tryd.prog 7 = some true := by kernel_rfl
theorem zero7 : zeroV Tryd.prog 7 = some (.agg [.int .i64 0, .int .i64 0, .bool false, .int .u8 0]) := by kernel_rfl
theorem by7 : bytesT Tryd.prog 7 ≤ 1024 := of_decide_eq_true (by kernel_rfl)
theorem bld7 (ps : List (Nat × V)) : build Tryd.prog 7 ps = (fillV (fun i => [(0, 1), (1, 1), (2, 1), (3, 1)][i]?) [.int .i64 0, .int .i64 0, .bool false, .int .u8 0] ps).map .agg := by kernel_rfl
theorem sz8 : sizeT Tryd.prog 8 = 4 := by kernel_rfl
theorem agg8 : aggT Tryd.prog 8 = some true := by kernel_rfl
theorem zero8 : zeroV Tryd.prog 8 = some (.agg [.int .i64 0, .int .i64 0, .bool false, .int .u8 0]) := by kernel_rfl
theorem by8 : bytesT Tryd.prog 8 ≤ 1024 := of_decide_eq_true (by kernel_rfl)
theorem bld8 (ps : List (Nat × V)) : build Tryd.prog 8 ps = (fillV (fun i => [(0, 1), (1, 1), (2, 1), (3, 1)][i]?) [.int .i64 0, .int .i64 0, .bool false, .int .u8 0] ps).map .agg := by kernel_rfl
theorem sz9 : sizeT Tryd.prog 9 = 1 := by kernel_rfl
theorem agg9 : aggT Tryd.prog 9 = some false := by kernel_rfl
theorem zero9 : zeroV Tryd.prog 9 = some (.str (bs [])) := by kernel_rfl
theorem by9 : bytesT Tryd.prog 9 ≤ 1024 := of_decide_eq_true (by kernel_rfl)
theorem sz10 : sizeT Tryd.prog 10 = 1 := by kernel_rfl
theorem agg10 : aggT Tryd.prog 10 = some false := by kernel_rfl
theorem zero10 : zeroV Tryd.prog 10 = some (.str (bs [])) := by kernel_rfl
theorem by10 : bytesT Tryd.prog 10 ≤ 1024 := of_decide_eq_true (by kernel_rfl)
theorem sz11 : sizeT Tryd.prog 11 = 1 := by kernel_rfl
theorem agg11 : aggT Tryd.prog 11 = some false := by kernel_rfl
theorem zero11 : zeroV Tryd.prog 11 = some (.str (bs [])) := by kernel_rfl
theorem by11 : bytesT Tryd.prog 11 ≤ 1024 := of_decide_eq_true (by kernel_rfl)
theorem sz12 : sizeT Tryd.prog 12 = 1 := by kernel_rfl
theorem agg12 : aggT Tryd.prog 12 = some false := by kernel_rfl
theorem zero12 : zeroV Tryd.prog 12 = some (.int .u64 0) := by kernel_rfl
theorem by12 : bytesT Tryd.prog 12 ≤ 1024 := of_decide_eq_true (by kernel_rfl)
theorem sz13 : sizeT Tryd.prog 13 = 2 := by kernel_rfl
theorem agg13 : aggT Tryd.prog 13 = some true := by kernel_rfl
theorem zero13 : zeroV Tryd.prog 13 = some (.agg [.str (bs []), .int .u64 0]) := by kernel_rfl
theorem by13 : bytesT Tryd.prog 13 ≤ 1024 := of_decide_eq_true (by kernel_rfl)
theorem bld13 (ps : List (Nat × V)) : build Tryd.prog 13 ps = (fillV (fun i => [(0, 1), (1, 1)][i]?) [.str (bs []), .int .u64 0] ps).map .agg := by kernel_rfl
theorem sz14 : sizeT Tryd.prog 14 = 2 := by kernel_rfl
theorem agg14 : aggT Tryd.prog 14 = some true := by kernel_rfl
theorem zero14 : zeroV Tryd.prog 14 = some (.agg [.str (bs []), .int .u64 0]) := by kernel_rfl
theorem by14 : bytesT Tryd.prog 14 ≤ 1024 := of_decide_eq_true (by kernel_rfl)
theorem bld14 (ps : List (Nat × V)) : build Tryd.prog 14 ps = (fillV (fun i => [(0, 1), (1, 1)][i]?) [.str (bs []), .int .u64 0] ps).map .agg := by kernel_rfl
theorem sz15 : sizeT Tryd.prog 15 = 1 := by kernel_rfl
theorem agg15 : aggT Tryd.prog 15 = some false := by kernel_rfl
theorem zero15 : zeroV Tryd.prog 15 = some (.nilp) := by kernel_rfl
theorem by15 : bytesT Tryd.prog 15 ≤ 1024 := of_decide_eq_true (by kernel_rfl)
theorem sz16 : sizeT Tryd.prog 16 = 1 := by kernel_rfl
theorem agg16 : aggT Tryd.prog 16 = some false := by kernel_rfl
theorem zero16 : zeroV Tryd.prog 16 = some (.nilp) := by kernel_rfl
theorem by16 : bytesT Tryd.prog 16 ≤ 1024 := of_decide_eq_true (by kernel_rfl)
theorem sz17 : sizeT Tryd.prog 17 = 1 := by kernel_rfl
theorem agg17 : aggT Tryd.prog 17 = some false := by kernel_rfl
theorem zero17 : zeroV Tryd.prog 17 = some (.nilp) := by kernel_rfl
theorem by17 : bytesT Tryd.prog 17 ≤ 1024 := of_decide_eq_true (by kernel_rfl)
theorem sz18 : sizeT Tryd.prog 18 = 1 := by kernel_rfl
theorem agg18 : aggT Tryd.prog 18 = some true := by kernel_rfl
theorem zero18 : zeroV Tryd.prog 18 = some (.agg [.nilp]) := by kernel_rfl
theorem by18 : bytesT Tryd.prog 18 ≤ 1024 := of_decide_eq_true (by kernel_rfl)
theorem bld18 (ps : List (Nat × V)) : build Tryd.prog 18 ps = (fillV (fun i => [(0, 1)][i]?) [.nilp] ps).map .agg := by kernel_rfl
theorem sz19 : sizeT Tryd.prog 19 = 1 := by kernel_rfl
theorem agg19 : aggT Tryd.prog 19 = some true := by kernel_rfl
theorem zero19 : zeroV Tryd.prog 19 = some (.agg [.nilp]) := by kernel_rfl
theorem by19 : bytesT Tryd.prog 19 ≤ 1024 := of_decide_eq_true (by kernel_rfl)
theorem bld19 (ps : List (Nat × V)) : build Tryd.prog 19 ps = (fillV (fun i => [(0, 1)][i]?) [.nilp] ps).map .agg := by kernel_rfl
theorem sz20 : sizeT Tryd.prog 20 = 1 := by kernel_rfl
theorem agg20 : aggT Tryd.prog 20 = some false := by kernel_rfl
theorem zero20 : zeroV Tryd.prog 20 = some (.nili) := by kernel_rfl
theorem by20 : bytesT Tryd.prog 20 ≤ 1024 := of_decide_eq_true (by kernel_rfl)
theorem sz21 : sizeT Tryd.prog 21 = 1 := by kernel_rfl
theorem agg21 : aggT Tryd.prog 21 = some false := by kernel_rfl
theorem zero21 : zeroV Tryd.prog 21 = some (.int .i32 0) := by kernel_rfl
theorem by21 : bytesT Tryd.prog 21 ≤ 1024 := of_decide_eq_true (by kernel_rfl)
theorem sz22 : sizeT Tryd.prog 22 = 1 := by kernel_rfl
theorem agg22 : aggT Tryd.prog 22 = some false := by kernel_rfl
theorem zero22 : zeroV Tryd.prog 22 = some (.nils) := by kernel_rfl
theorem by22 : bytesT Tryd.prog 22 ≤ 1024 := of_decide_eq_true (by kernel_rfl)
theorem elem22 : elemT Tryd.prog 22 = 1 := by kernel_rfl
theorem sz23 : sizeT Tryd.prog 23 = 1 := by kernel_rfl
theorem agg23 : aggT Tryd.prog 23 = some false := by kernel_rfl
theorem zero23 : zeroV Tryd.prog 23 = some (.nilf) := by kernel_rfl
theorem by23 : bytesT Tryd.prog 23 ≤ 1024 := of_decide_eq_true (by kernel_rfl)
theorem sz24 : sizeT Tryd.prog 24 = 1 := by kernel_rfl
theorem agg24 : aggT Tryd.prog 24 = some false := by kernel_rfl
theorem zero24 : zeroV Tryd.prog 24 = some (.nilp) := by kernel_rfl
theorem by24 : bytesT Tryd.prog 24 ≤ 1024 := of_decide_eq_true (by kernel_rfl)
theorem sz25 : sizeT Tryd.prog 25 = 1 := by kernel_rfl
theorem agg25 : aggT Tryd.prog 25 = some false := by kernel_rfl
theorem zero25 : zeroV Tryd.prog 25 = some (.int .i64 0) := by kernel_rfl
theorem by25 : bytesT Tryd.prog 25 ≤ 1024 := of_decide_eq_true (by kernel_rfl)
theorem sz27 : sizeT Tryd.prog 27 = 1 := by kernel_rfl
theorem agg27 : aggT Tryd.prog 27 = some false := by kernel_rfl
theorem zero27 : zeroV Tryd.prog 27 = some (.nilf) := by kernel_rfl
theorem by27 : bytesT Tryd.prog 27 ≤ 1024 := of_decide_eq_true (by kernel_rfl)
theorem sz28 : sizeT Tryd.prog 28 = 1 := by kernel_rfl
theorem agg28 : aggT Tryd.prog 28 = some false := by kernel_rfl
theorem zero28 : zeroV Tryd.prog 28 = some (.nils) := by kernel_rfl
theorem by28 : bytesT Tryd.prog 28 ≤ 1024 := of_decide_eq_true (by kernel_rfl)
theorem elem28 : elemT Tryd.prog 28 = 1 := by kernel_rfl
theorem sz29 : sizeT Tryd.prog 29 = 1 := by kernel_rfl
theorem agg29 : aggT Tryd.prog 29 = some false := by kernel_rfl
theorem zero29 : zeroV Tryd.prog 29 = some (.nils) := by kernel_rfl
theorem by29 : bytesT Tryd.prog 29 ≤ 1024 := of_decide_eq_true (by kernel_rfl)
theorem elem29 : elemT Tryd.prog 29 = 1 := by kernel_rfl
theorem sz30 : sizeT Tryd.prog 30 = 1 := by kernel_rfl
theorem agg30 : aggT Tryd.prog 30 = some false := by kernel_rfl
theorem zero30 : zeroV Tryd.prog 30 = some (.nilp) := by kernel_rfl
theorem by30 : bytesT Tryd.prog 30 ≤ 1024 := of_decide_eq_true (by kernel_rfl)
theorem sz31 : sizeT Tryd.prog 31 = 1 := by kernel_rfl
theorem agg31 : aggT Tryd.prog 31 = some false := by kernel_rfl
theorem zero31 : zeroV Tryd.prog 31 = some (.int .u8 0) := by kernel_rfl
theorem by31 : bytesT Tryd.prog 31 ≤ 1024 := of_decide_eq_true (by kernel_rfl)
theorem sz33 : sizeT Tryd.prog 33 = 1 := by kernel_rfl
theorem agg33 : aggT Tryd.prog 33 = some false := by kernel_rfl
theorem zero33 : zeroV Tryd.prog 33 = some (.nilf) := by kernel_rfl
theorem by33 : bytesT Tryd.prog 33 ≤ 1024 := of_decide_eq_true (by kernel_rfl)
theorem sz34 : sizeT Tryd.prog 34 = 2 := by kernel_rfl
theorem agg34 : aggT Tryd.prog 34 = some true := by kernel_rfl
theorem zero34 : zeroV Tryd.prog 34 = some (.agg [.int .u8 0, .int .i64 0]) := by kernel_rfl
theorem by34 : bytesT Tryd.prog 34 ≤ 1024 := of_decide_eq_true (by kernel_rfl)
theorem bld34 (ps : List (Nat × V)) : build Tryd.prog 34 ps = (fillV (fun i => [(0, 1), (1, 1)][i]?) [.int .u8 0, .int .i64 0] ps).map .agg := by kernel_rfl
theorem sz35 : sizeT Tryd.prog 35 = 2 := by kernel_rfl
theorem agg35 : aggT Tryd.prog 35 = some true := by kernel_rfl
theorem zero35 : zeroV Tryd.prog 35 = some (.agg [.int .u8 0, .int .i64 0]) := by kernel_rfl
theorem by35 : bytesT Tryd.prog 35 ≤ 1024 := of_decide_eq_true (by kernel_rfl)
theorem bld35 (ps : List (Nat × V)) : build Tryd.prog 35 ps = (fillV (fun i => [(0, 1), (1, 1)][i]?) [.int .u8 0, .int .i64 0] ps).map .agg := by kernel_rfl
theorem sz36 : sizeT Tryd.prog 36 = 1 := by kernel_rfl
theorem agg36 : aggT Tryd.prog 36 = some false := by kernel_rfl
theorem zero36 : zeroV Tryd.prog 36 = some (.int .u8 0) := by kernel_rfl
theorem by36 : bytesT Tryd.prog 36 ≤ 1024 := of_decide_eq_true (by kernel_rfl)
theorem sz37 : sizeT Tryd.prog 37 = 1 := by kernel_rfl
theorem agg37 : aggT Tryd.prog 37 = some false := by kernel_rfl
theorem zero37 : zeroV Tryd.prog 37 = some (.int .u64 0) := by kernel_rfl
theorem by37 : bytesT Tryd.prog 37 ≤ 1024 := of_decide_eq_true (by kernel_rfl)
theorem sz38 : sizeT Tryd.prog 38 = 5 := by kernel_rfl
theorem agg38 : aggT Tryd.prog 38 = some true := by kernel_rfl
theorem zero38 : zeroV Tryd.prog 38 = some (.agg [.int .u8 0, .int .i64 0, .int .u64 0, .int .u64 0, .bool false]) := by kernel_rfl
theorem by38 : bytesT Tryd.prog 38 ≤ 1024 := of_decide_eq_true (by kernel_rfl)
theorem bld38 (ps : List (Nat × V)) : build Tryd.prog 38 ps = (fillV (fun i => [(0, 1), (1, 1), (2, 1), (3, 1), (4, 1)][i]?) [.int .u8 0, .int .i64 0, .int .u64 0, .int .u64 0, .bool false] ps).map .agg := by kernel_rfl
theorem sz39 : sizeT Tryd.prog 39 = 5 := by kernel_rfl
theorem agg39 : aggT Tryd.prog 39 = some true := by kernel_rfl
theorem zero39 : zeroV Tryd.prog 39 = some (.agg [.int .u8 0, .int .i64 0, .int .u64 0, .int .u64 0, .bool false]) := by kernel_rfl
theorem by39 : bytesT Tryd.prog 39 ≤ 1024 := of_decide_eq_true (by kernel_rfl)
theorem bld39 (ps : List (Nat × V)) : build Tryd.prog 39 ps = (fillV (fun i => [(0, 1), (1, 1), (2, 1), (3, 1), (4, 1)][i]?) [.int .u8 0, .int .i64 0, .int .u64 0, .int .u64 0, .bool false] ps).map .agg := by kernel_rfl
theorem sz41 : sizeT Tryd.prog 41 = 1 := by kernel_rfl
theorem agg41 : aggT Tryd.prog 41 = some false := by kernel_rfl
theorem zero41 : zeroV Tryd.prog 41 = some (.nilf) := by kernel_rfl
theorem by41 : bytesT Tryd.prog 41 ≤ 1024 := of_decide_eq_true (by kernel_rfl)
theorem sz42 : sizeT Tryd.prog 42 = 1 := by kernel_rfl
theorem agg42 : aggT Tryd.prog 42 = some false := by kernel_rfl
theorem zero42 : zeroV Tryd.prog 42 = some (.nilf) := by kernel_rfl
theorem by42 : bytesT Tryd.prog 42 ≤ 1024 := of_decide_eq_true (by kernel_rfl)
theorem sz43 : sizeT Tryd.prog 43 = 1 := by kernel_rfl
theorem agg43 : aggT Tryd.prog 43 = some false := by kernel_rfl
theorem zero43 : zeroV Tryd.prog 43 = some (.nils) := by kernel_rfl
theorem by43 : bytesT Tryd.prog 43 ≤ 1024 := of_decide_eq_true (by kernel_rfl)
theorem elem43 : elemT Tryd.prog 43 = 1 := by kernel_rfl
theorem sz44 : sizeT Tryd.prog 44 = 1 := by kernel_rfl
theorem agg44 : aggT Tryd.prog 44 = some false := by kernel_rfl
theorem zero44 : zeroV Tryd.prog 44 = some (.nilf) := by kernel_rfl
theorem by44 : bytesT Tryd.prog 44 ≤ 1024 := of_decide_eq_true (by kernel_rfl)
theorem sz45 : sizeT Tryd.prog 45 = 1 := by kernel_rfl
theorem agg45 : aggT Tryd.prog 45 = some false := by kernel_rfl
theorem zero45 : zeroV Tryd.prog 45 = some (.nilf) := by kernel_rfl
theorem by45 : bytesT Tryd.prog 45 ≤ 1024 := of_decide_eq_true (by kernel_rfl)
theorem sz46 : sizeT Tryd.prog 46 = 1 := by kernel_rfl
theorem agg46 : aggT Tryd.prog 46 = some false := by kernel_rfl
theorem zero46 : zeroV Tryd.prog 46 = some (.nilp) := by kernel_rfl
theorem by46 : bytesT Tryd.prog 46 ≤ 1024 := of_decide_eq_true (by kernel_rfl)
theorem sz48 : sizeT Tryd.prog 48 = 1 := by kernel_rfl
theorem agg48 : aggT Tryd.prog 48 = some false := by kernel_rfl
theorem zero48 : zeroV Tryd.prog 48 = some (.nilf) := by kernel_rfl
theorem by48 : bytesT Tryd.prog 48 ≤ 1024 := of_decide_eq_true (by kernel_rfl)
theorem sz49 : sizeT Tryd.prog 49 = 3 := by kernel_rfl
theorem agg49 : aggT Tryd.prog 49 = some true := by kernel_rfl
theorem zero49 : zeroV Tryd.prog 49 = some (.agg [.int .i64 0, .int .i64 0, .int .i64 0]) := by kernel_rfl
theorem by49 : bytesT Tryd.prog 49 ≤ 1024 := of_decide_eq_true (by kernel_rfl)
theorem bld49 (ps : List (Nat × V)) : build Tryd.prog 49 ps = (fillV (fun i => [(0, 1), (1, 1), (2, 1)][i]?) [.int .i64 0, .int .i64 0, .int .i64 0] ps).map .agg := by kernel_rfl
theorem sz50 : sizeT Tryd.prog 50 = 3 := by kernel_rfl
theorem agg50 : aggT Tryd.prog 50 = some true := by kernel_rfl
theorem zero50 : zeroV Tryd.prog 50 = some (.agg [.int .i64 0, .int .i64 0, .int .i64 0]) := by kernel_rfl
theorem by50 : bytesT Tryd.prog 50 ≤ 1024 := of_decide_eq_true (by kernel_rfl)
theorem bld50 (ps : List (Nat × V)) : build Tryd.prog 50 ps = (fillV (fun i => [(0, 1), (1, 1), (2, 1)][i]?) [.int .i64 0, .int .i64 0, .int .i64 0] ps).map .agg := by kernel_rfl
theorem sz52 : sizeT Tryd.prog 52 = 1 := by kernel_rfl
theorem agg52 : aggT Tryd.prog 52 = some false := by kernel_rfl
theorem zero52 : zeroV Tryd.prog 52 = some (.nilf) := by kernel_rfl
theorem by52 : bytesT Tryd.prog 52 ≤ 1024 := of_decide_eq_true (by kernel_rfl)
theorem sz54 : sizeT Tryd.prog 54 = 1 := by kernel_rfl
theorem agg54 : aggT Tryd.prog 54 = some false := by kernel_rfl
theorem zero54 : zeroV Tryd.prog 54 = some (.nilf) := by kernel_rfl
theorem by54 : bytesT Tryd.prog 54 ≤ 1024 := of_decide_eq_true (by kernel_rfl)
theorem sz55 : sizeT Tryd.prog 55 = 1 := by kernel_rfl
theorem agg55 : aggT Tryd.prog 55 = some false := by kernel_rfl
theorem zero55 : zeroV Tryd.prog 55 = some (.nilf) := by kernel_rfl
theorem by55 : bytesT Tryd.prog 55 ≤ 1024 := of_decide_eq_true (by kernel_rfl)
theorem sz57 : sizeT Tryd.prog 57 = 1 := by kernel_rfl
theorem agg57 : aggT Tryd.prog 57 = some false := by kernel_rfl
theorem zero57 : zeroV Tryd.prog 57 = some (.nilf) := by kernel_rfl
theorem by57 : bytesT Tryd.prog 57 ≤ 1024 := of_decide_eq_true (by kernel_rfl)
theorem sz58 : sizeT Tryd.prog 58 = 1 := by kernel_rfl
theorem agg58 : aggT Tryd.prog 58 = some false := by kernel_rfl
theorem zero58 : zeroV Tryd.prog 58 = some (.nilf) := by kernel_rfl
theorem by58 : bytesT Tryd.prog 58 ≤ 1024 := of_decide_eq_true (by kernel_rfl)
theorem sz59 : sizeT Tryd.prog 59 = 1 := by kernel_rfl
theorem agg59 : aggT Tryd.prog 59 = some false := by kernel_rfl
theorem zero59 : zeroV Tryd.prog 59 = some (.nils) := by kernel_rfl
theorem by59 : bytesT Tryd.prog 59 ≤ 1024 := of_decide_eq_true (by kernel_rfl)
theorem elem59 : elemT Tryd.prog 59 = 1 := by kernel_rfl
theorem sz60 : sizeT Tryd.prog 60 = 1 := by kernel_rfl
theorem agg60 : aggT Tryd.prog 60 = some false := by kernel_rfl
theorem zero60 : zeroV Tryd.prog 60 = some (.nilp) := by kernel_rfl
theorem by60 : bytesT Tryd.prog 60 ≤ 1024 := of_decide_eq_true (by kernel_rfl)
theorem sz62 : sizeT Tryd.prog 62 = 1 := by kernel_rfl
theorem agg62 : aggT Tryd.prog 62 = some false := by kernel_rfl
theorem zero62 : zeroV Tryd.prog 62 = some (.nilf) := by kernel_rfl
theorem by62 : bytesT Tryd.prog 62 ≤ 1024 := of_decide_eq_true (by kernel_rfl)
theorem sz63 : sizeT Tryd.prog 63 = 1 := by kernel_rfl
theorem agg63 : aggT Tryd.prog 63 = some false := by kernel_rfl
theorem zero63 : zeroV Tryd.prog 63 = some (.nilp) := by kernel_rfl
theorem by63 : bytesT Tryd.prog 63 ≤ 1024 := of_decide_eq_true (by kernel_rfl)
theorem sz64 : sizeT Tryd.prog 64 = 1 := by kernel_rfl
theorem agg64 : aggT Tryd.prog 64 = some false := by kernel_rfl
theorem zero64 : zeroV Tryd.prog 64 = some (.nilf) := by kernel_rfl
theorem by64 : bytesT Tryd.prog 64 ≤ 1024 := of_decide_eq_true (by kernel_rfl)
theorem sz65 : sizeT Tryd.prog 65 = 1 := by kernel_rfl
theorem agg65 : aggT Tryd.prog 65 = some false := by kernel_rfl
theorem zero65 : zeroV Tryd.prog 65 = some (.nils) := by kernel_rfl
theorem by65 : bytesT Tryd.prog 65 ≤ 1024 := of_decide_eq_true (by kernel_rfl)
theorem elem65 : elemT Tryd.prog 65 = 1 := by kernel_rfl
theorem sz66 : sizeT Tryd.prog 66 = 1 := by kernel_rfl
theorem agg66 : aggT Tryd.prog 66 = some false := by kernel_rfl
theorem zero66 : zeroV Tryd.prog 66 = some (.int .u32 0) := by kernel_rfl
theorem by66 : bytesT Tryd.prog 66 ≤ 1024 := of_decide_eq_true (by kernel_rfl)
theorem sz67 : sizeT Tryd.prog 67 = 1 := by kernel_rfl
theorem agg67 : aggT Tryd.prog 67 = some false := by kernel_rfl
theorem zero67 : zeroV Tryd.prog 67 = some (.nilp) := by kernel_rfl
theorem by67 : bytesT Tryd.prog 67 ≤ 1024 := of_decide_eq_true (by kernel_rfl)
theorem sz69 : sizeT Tryd.prog 69 = 1 := by kernel_rfl
theorem agg69 : aggT Tryd.prog 69 = some false := by kernel_rfl
theorem zero69 : zeroV Tryd.prog 69 = some (.nilf) := by kernel_rfl
theorem by69 : bytesT Tryd.prog 69 ≤ 1024 := of_decide_eq_true (by kernel_rfl)
theorem sz70 : sizeT Tryd.prog 70 = 1 := by kernel_rfl
theorem agg70 : aggT Tryd.prog 70 = some false := by kernel_rfl
theorem zero70 : zeroV Tryd.prog 70 = some (.int .u8 0) := by kernel_rfl
theorem by70 : bytesT Tryd.prog 70 ≤ 1024 := of_decide_eq_true (by kernel_rfl)
theorem sz71 : sizeT Tryd.prog 71 = 2 := by kernel_rfl
theorem agg71 : aggT Tryd.prog 71 = some true := by kernel_rfl
theorem zero71 : zeroV Tryd.prog 71 = some (.agg [.int .u8 0, .int .u64 0]) := by kernel_rfl
theorem by71 : bytesT Tryd.prog 71 ≤ 1024 := of_decide_eq_true (by kernel_rfl)
theorem bld71 (ps : List (Nat × V)) : build Tryd.prog 71 ps = (fillV (fun i => [(0, 1), (1, 1)][i]?) [.int .u8 0, .int .u64 0] ps).map .agg := by kernel_rfl
theorem sz72 : sizeT Tryd.prog 72 = 2 := by kernel_rfl
theorem agg72 : aggT Tryd.prog 72 = some true := by kernel_rfl
theorem zero72 : zeroV Tryd.prog 72 = some (.agg [.int .u8 0, .int .u64 0]) := by kernel_rfl
theorem by72 : bytesT Tryd.prog 72 ≤ 1024 := of_decide_eq_true (by kernel_rfl)
theorem bld72 (ps : List (Nat × V)) : build Tryd.prog 72 ps = (fillV (fun i => [(0, 1), (1, 1)][i]?) [.int .u8 0, .int .u64 0] ps).map .agg := by kernel_rfl
theorem sz73 : sizeT Tryd.prog 73 = 1 := by kernel_rfl
theorem agg73 : aggT Tryd.prog 73 = some false := by kernel_rfl
theorem zero73 : zeroV Tryd.prog 73 = some (.nils) := by kernel_rfl
theorem by73 : bytesT Tryd.prog 73 ≤ 1024 := of_decide_eq_true (by kernel_rfl)
theorem elem73 : elemT Tryd.prog 73 = 1 := by kernel_rfl
theorem sz74 : sizeT Tryd.prog 74 = 1 := by kernel_rfl
theorem agg74 : aggT Tryd.prog 74 = some false := by kernel_rfl
theorem zero74 : zeroV Tryd.prog 74 = some (.nilp) := by kernel_rfl
theorem by74 : bytesT Tryd.prog 74 ≤ 1024 := of_decide_eq_true (by kernel_rfl)
theorem sz76 : sizeT Tryd.prog 76 = 1 := by kernel_rfl
theorem agg76 : aggT Tryd.prog 76 = some false := by kernel_rfl
theorem zero76 : zeroV Tryd.prog 76 = some (.nilf) := by kernel_rfl
theorem by76 : bytesT Tryd.prog 76 ≤ 1024 := of_decide_eq_true (by kernel_rfl)
theorem sz77 : sizeT Tryd.prog 77 = 1 := by kernel_rfl
theorem agg77 : aggT Tryd.prog 77 = some false := by kernel_rfl
theorem zero77 : zeroV Tryd.prog 77 = some (.int .u8 0) := by kernel_rfl
theorem by77 : bytesT Tryd.prog 77 ≤ 1024 := of_decide_eq_true (by kernel_rfl)
theorem sz78 : sizeT Tryd.prog 78 = 4 := by kernel_rfl
theorem agg78 : aggT Tryd.prog 78 = some true := by kernel_rfl
theorem zero78 : zeroV Tryd.prog 78 = some (.agg [.int .u8 0, .int .i64 0, .int .u32 0, .int .i64 0]) := by kernel_rfl
theorem by78 : bytesT Tryd.prog 78 ≤ 1024 := of_decide_eq_true (by kernel_rfl)
theorem bld78 (ps : List (Nat × V)) : build Tryd.prog 78 ps = (fillV (fun i => [(0, 1), (1, 1), (2, 1), (3, 1)][i]?) [.int .u8 0, .int .i64 0, .int .u32 0, .int .i64 0] ps).map .agg := by kernel_rfl
theorem sz79 : sizeT Tryd.prog 79 = 4 := by kernel_rfl
theorem agg79 : aggT Tryd.prog 79 = some true := by kernel_rfl
theorem zero79 : zeroV Tryd.prog 79 = some (.agg [.int .u8 0, .int .i64 0, .int .u32 0, .int .i64 0]) := by kernel_rfl
theorem by79 : bytesT Tryd.prog 79 ≤ 1024 := of_decide_eq_true (by kernel_rfl)
theorem bld79 (ps : List (Nat × V)) : build Tryd.prog 79 ps = (fillV (fun i => [(0, 1), (1, 1), (2, 1), (3, 1)][i]?) [.int .u8 0, .int .i64 0, .int .u32 0, .int .i64 0] ps).map .agg := by kernel_rfl
theorem sz80 : sizeT Tryd.prog 80 = 1 := by kernel_rfl
theorem agg80 : aggT Tryd.prog 80 = some false := by kernel_rfl
theorem zero80 : zeroV Tryd.prog 80 = some (.nils) := by kernel_rfl
theorem by80 : bytesT Tryd.prog 80 ≤ 1024 := of_decide_eq_true (by kernel_rfl)
theorem elem80 : elemT Tryd.prog 80 = 2 := by kernel_rfl
theorem sz82 : sizeT Tryd.prog 82 = 1 := by kernel_rfl
theorem agg82 : aggT Tryd.prog 82 = some false := by kernel_rfl
theorem zero82 : zeroV Tryd.prog 82 = some (.nilf) := by kernel_rfl
theorem by82 : bytesT Tryd.prog 82 ≤ 1024 := of_decide_eq_true (by kernel_rfl)
theorem sz83 : sizeT Tryd.prog 83 = 3 := by kernel_rfl
theorem agg83 : aggT Tryd.prog 83 = some true := by kernel_rfl
theorem zero83 : zeroV Tryd.prog 83 = some (.agg [.nils, .bool false, .int .i64 0]) := by kernel_rfl
theorem by83 : bytesT Tryd.prog 83 ≤ 1024 := of_decide_eq_true (by kernel_rfl)
theorem bld83 (ps : List (Nat × V)) : build Tryd.prog 83 ps = (fillV (fun i => [(0, 1), (1, 1), (2, 1)][i]?) [.nils, .bool false, .int .i64 0] ps).map .agg := by kernel_rfl
theorem sz84 : sizeT Tryd.prog 84 = 3 := by kernel_rfl
theorem agg84 : aggT Tryd.prog 84 = some true := by kernel_rfl
theorem zero84 : zeroV Tryd.prog 84 = some (.agg [.nils, .bool false, .int .i64 0]) := by kernel_rfl
theorem by84 : bytesT Tryd.prog 84 ≤ 1024 := of_decide_eq_true (by kernel_rfl)
theorem bld84 (ps : List (Nat × V)) : build Tryd.prog 84 ps = (fillV (fun i => [(0, 1), (1, 1), (2, 1)][i]?) [.nils, .bool false, .int .i64 0] ps).map .agg := by kernel_rfl
theorem sz85 : sizeT Tryd.prog 85 = 1 := by kernel_rfl
theorem agg85 : aggT Tryd.prog 85 = some false := by kernel_rfl
theorem zero85 : zeroV Tryd.prog 85 = some (.nilf) := by kernel_rfl
theorem by85 : bytesT Tryd.prog 85 ≤ 1024 := of_decide_eq_true (by kernel_rfl)
theorem sz86 : sizeT Tryd.prog 86 = 2 := by kernel_rfl
theorem agg86 : aggT Tryd.prog 86 = some true := by kernel_rfl
theorem zero86 : zeroV Tryd.prog 86 = some (.agg [.int .u32 0, .int .u32 0]) := by kernel_rfl
theorem by86 : bytesT Tryd.prog 86 ≤ 1024 := of_decide_eq_true (by kernel_rfl)
theorem bld86 (ps : List (Nat × V)) : build Tryd.prog 86 ps = (fillV (fun i => [(0, 1), (1, 1)][i]?) [.int .u32 0, .int .u32 0] ps).map .agg := by kernel_rfl
theorem sz87 : sizeT Tryd.prog 87 = 2 := by kernel_rfl
theorem agg87 : aggT Tryd.prog 87 = some true := by kernel_rfl
theorem zero87 : zeroV Tryd.prog 87 = some (.agg [.int .u32 0, .int .u32 0]) := by kernel_rfl
theorem by87 : bytesT Tryd.prog 87 ≤ 1024 := of_decide_eq_true (by kernel_rfl)
theorem bld87 (ps : List (Nat × V)) : build Tryd.prog 87 ps = (fillV (fun i => [(0, 1), (1, 1)][i]?) [.int .u32 0, .int .u32 0] ps).map .agg := by kernel_rfl
theorem sz88 : sizeT Tryd.prog 88 = 1 := by kernel_rfl
theorem agg88 : aggT Tryd.prog 88 = some false := by kernel_rfl
theorem zero88 : zeroV Tryd.prog 88 = some (.nilf) := by kernel_rfl
theorem by88 : bytesT Tryd.prog 88 ≤ 1024 := of_decide_eq_true (by kernel_rfl)
theorem sz89 : sizeT Tryd.prog 89 = 2 := by kernel_rfl
theorem agg89 : aggT Tryd.prog 89 = some true := by kernel_rfl
theorem zero89 : zeroV Tryd.prog 89 = some (.agg [.int .i64 0, .int .i64 0]) := by kernel_rfl
theorem by89 : bytesT Tryd.prog 89 ≤ 1024 := of_decide_eq_true (by kernel_rfl)
theorem bld89 (ps : List (Nat × V)) : build Tryd.prog 89 ps = (fillV (fun i => [(0, 1), (1, 1)][i]?) [.int .i64 0, .int .i64 0] ps).map .agg := by kernel_rfl
theorem sz90 : sizeT Tryd.prog 90 = 2 := by kernel_rfl
theorem agg90 : aggT Tryd.prog 90 = some true := by kernel_rfl
theorem zero90 : zeroV Tryd.prog 90 = some (.agg [.int .i64 0, .int .i64 0]) := by kernel_rfl
theorem by90 : bytesT Tryd.prog 90 ≤ 1024 := of_decide_eq_true (by kernel_rfl)
theorem bld90 (ps : List (Nat × V)) : build Tryd.prog 90 ps = (fillV (fun i => [(0, 1), (1, 1)][i]?) [.int .i64 0, .int .i64 0] ps).map .agg := by kernel_rfl
theorem sz91 : sizeT Tryd.prog 91 = 1 := by kernel_rfl
theorem agg91 : aggT Tryd.prog 91 = some false := by kernel_rfl
theorem zero91 : zeroV Tryd.prog 91 = some (.nils) := by kernel_rfl
theorem by91 : bytesT Tryd.prog 91 ≤ 1024 := of_decide_eq_true (by kernel_rfl)
theorem elem91 : elemT Tryd.prog 91 = 1 := by kernel_rfl
theorem sz92 : sizeT Tryd.prog 92 = 1 := by kernel_rfl
theorem agg92 : aggT Tryd.prog 92 = some false := by kernel_rfl
theorem zero92 : zeroV Tryd.prog 92 = some (.nilf) := by kernel_rfl
theorem by92 : bytesT Tryd.prog 92 ≤ 1024 := of_decide_eq_true (by kernel_rfl)
theorem sz93 : sizeT Tryd.prog 93 = 1 := by kernel_rfl
theorem agg93 : aggT Tryd.prog 93 = some false := by kernel_rfl
theorem zero93 : zeroV Tryd.prog 93 = some (.nils) := by kernel_rfl
theorem by93 : bytesT Tryd.prog 93 ≤ 1024 := of_decide_eq_true (by kernel_rfl)
theorem elem93 : elemT Tryd.prog 93 = 1 := by kernel_rfl
theorem sz95 : sizeT Tryd.prog 95 = 1 := by kernel_rfl
theorem agg95 : aggT Tryd.prog 95 = some false := by kernel_rfl
theorem zero95 : zeroV Tryd.prog 95 = some (.nilf) := by kernel_rfl
theorem by95 : bytesT Tryd.prog 95 ≤ 1024 := of_decide_eq_true (by kernel_rfl)
theorem sz96 : sizeT Tryd.prog 96 = 1 := by kernel_rfl
theorem agg96 : aggT Tryd.prog 96 = some false := by kernel_rfl
theorem zero96 : zeroV Tryd.prog 96 = some (.int .u8 0) := by kernel_rfl
theorem by96 : bytesT Tryd.prog 96 ≤ 1024 := of_decide_eq_true (by kernel_rfl)
theorem sz97 : sizeT Tryd.prog 97 = 6 := by kernel_rfl
theorem agg97 : aggT Tryd.prog 97 = some true := by kernel_rfl
theorem zero97 : zeroV Tryd.prog 97 = some (.agg [.int .u8 0, .int .i64 0, .int .i64 0, .int .i64 0, .int .i64 0, .int .u64 0]) := by kernel_rfl
theorem by97 : bytesT Tryd.prog 97 ≤ 1024 := of_decide_eq_true (by kernel_rfl)
theorem bld97 (ps : List (Nat × V)) : build Tryd.prog 97 ps = (fillV (fun i => [(0, 1), (1, 1), (2, 1), (3, 1), (4, 1), (5, 1)][i]?) [.int .u8 0, .int .i64 0, .int .i64 0, .int .i64 0, .int .i64 0, .int .u64 0] ps).map .agg := by kernel_rfl
theorem sz98 : sizeT Tryd.prog 98 = 6 := by kernel_rfl
theorem agg98 : aggT Tryd.prog 98 = some true := by kernel_rfl
theorem zero98 : zeroV Tryd.prog 98 = some (.agg [.int .u8 0, .int .i64 0, .int .i64 0, .int .i64 0, .int .i64 0, .int .u64 0]) := by kernel_rfl
theorem by98 : bytesT Tryd.prog 98 ≤ 1024 := of_decide_eq_true (by kernel_rfl)
theorem bld98 (ps : List (Nat × V)) : build Tryd.prog 98 ps = (fillV (fun i => [(0, 1), (1, 1), (2, 1), (3, 1), (4, 1), (5, 1)][i]?) [.int .u8 0, .int .i64 0, .int .i64 0, .int .i64 0, .int .i64 0, .int .u64 0] ps).map .agg := by kernel_rfl
theorem sz99 : sizeT Tryd.prog 99 = 1 := by kernel_rfl
theorem agg99 : aggT Tryd.prog 99 = some false := by kernel_rfl
theorem zero99 : zeroV Tryd.prog 99 = some (.nils) := by kernel_rfl
theorem by99 : bytesT Tryd.prog 99 ≤ 1024 := of_decide_eq_true (by kernel_rfl)
theorem elem99 : elemT Tryd.prog 99 = 6 := by kernel_rfl
theorem sz100 : sizeT Tryd.prog 100 = 1 := by kernel_rfl
theorem agg100 : aggT Tryd.prog 100 = some false := by kernel_rfl
theorem zero100 : zeroV Tryd.prog 100 = some (.nils) := by kernel_rfl
theorem by100 : bytesT Tryd.prog 100 ≤ 1024 := of_decide_eq_true (by kernel_rfl)
theorem elem100 : elemT Tryd.prog 100 = 8 := by kernel_rfl
theorem sz101 : sizeT Tryd.prog 101 = 1 := by kernel_rfl
theorem agg101 : aggT Tryd.prog 101 = some false := by kernel_rfl
theorem zero101 : zeroV Tryd.prog 101 = some (.nils) := by kernel_rfl
theorem by101 : bytesT Tryd.prog 101 ≤ 1024 := of_decide_eq_true (by kernel_rfl)
theorem elem101 : elemT Tryd.prog 101 = 6 := by kernel_rfl
theorem sz102 : sizeT Tryd.prog 102 = 4 := by kernel_rfl
theorem agg102 : aggT Tryd.prog 102 = some true := by kernel_rfl
theorem zero102 : zeroV Tryd.prog 102 = some (.agg [.nils, .nils, .nils, .nils]) := by kernel_rfl
theorem by102 : bytesT Tryd.prog 102 ≤ 1024 := of_decide_eq_true (by kernel_rfl)
theorem bld102 (ps : List (Nat × V)) : build Tryd.prog 102 ps = (fillV (fun i => [(0, 1), (1, 1), (2, 1), (3, 1)][i]?) [.nils, .nils, .nils, .nils] ps).map .agg := by kernel_rfl
theorem sz103 : sizeT Tryd.prog 103 = 4 := by kernel_rfl
theorem agg103 : aggT Tryd.prog 103 = some true := by kernel_rfl
theorem zero103 : zeroV Tryd.prog 103 = some (.agg [.nils, .nils, .nils, .nils]) := by kernel_rfl
theorem by103 : bytesT Tryd.prog 103 ≤ 1024 := of_decide_eq_true (by kernel_rfl)
theorem bld103 (ps : List (Nat × V)) : build Tryd.prog 103 ps = (fillV (fun i => [(0, 1), (1, 1), (2, 1), (3, 1)][i]?) [.nils, .nils, .nils, .nils] ps).map .agg := by kernel_rfl
theorem sz105 : sizeT Tryd.prog 105 = 1 := by kernel_rfl
theorem agg105 : aggT Tryd.prog 105 = some false := by kernel_rfl
theorem zero105 : zeroV Tryd.prog 105 = some (.nilf) := by kernel_rfl
theorem by105 : bytesT Tryd.prog 105 ≤ 1024 := of_decide_eq_true (by kernel_rfl)
theorem sz106 : sizeT Tryd.prog 106 = 1 := by kernel_rfl
theorem agg106 : aggT Tryd.prog 106 = some false := by kernel_rfl
theorem zero106 : zeroV Tryd.prog 106 = some (.nils) := by kernel_rfl
theorem by106 : bytesT Tryd.prog 106 ≤ 1024 := of_decide_eq_true (by kernel_rfl)
theorem elem106 : elemT Tryd.prog 106 = 1 := by kernel_rfl
theorem sz108 : sizeT Tryd.prog 108 = 1 := by kernel_rfl
theorem agg108 : aggT Tryd.prog 108 = some false := by kernel_rfl
theorem zero108 : zeroV Tryd.prog 108 = some (.nilf) := by kernel_rfl
theorem by108 : bytesT Tryd.prog 108 ≤ 1024 := of_decide_eq_true (by kernel_rfl)
theorem sz109 : sizeT Tryd.prog 109 = 1 := by kernel_rfl
theorem agg109 : aggT Tryd.prog 109 = some false := by kernel_rfl
theorem zero109 : zeroV Tryd.prog 109 = some (.nilf) := by kernel_rfl
theorem by109 : bytesT Tryd.prog 109 ≤ 1024 := of_decide_eq_true (by kernel_rfl)
theorem sz110 : sizeT Tryd.prog 110 = 1 := by kernel_rfl
theorem agg110 : aggT Tryd.prog 110 = some false := by kernel_rfl
theorem zero110 : zeroV Tryd.prog 110 = some (.nilp) := by kernel_rfl
theorem by110 : bytesT Tryd.prog 110 ≤ 1024 := of_decide_eq_true (by kernel_rfl)
theorem sz112 : sizeT Tryd.prog 112 = 1 := by kernel_rfl
theorem agg112 : aggT Tryd.prog 112 = some false := by kernel_rfl
theorem zero112 : zeroV Tryd.prog 112 = some (.nilf) := by kernel_rfl
theorem by112 : bytesT Tryd.prog 112 ≤ 1024 := of_decide_eq_true (by kernel_rfl)
theorem sz114 : sizeT Tryd.prog 114 = 1 := by kernel_rfl
theorem agg114 : aggT Tryd.prog 114 = some false := by kernel_rfl
theorem zero114 : zeroV Tryd.prog 114 = some (.nilf) := by kernel_rfl
theorem by114 : bytesT Tryd.prog 114 ≤ 1024 := of_decide_eq_true (by kernel_rfl)
theorem sz115 : sizeT Tryd.prog 115 = 1 := by kernel_rfl
theorem agg115 : aggT Tryd.prog 115 = some false := by kernel_rfl
theorem zero115 : zeroV Tryd.prog 115 = some (.nilf) := by kernel_rfl
theorem by115 : bytesT Tryd.prog 115 ≤ 1024 := of_decide_eq_true (by kernel_rfl)
theorem sz116 : sizeT Tryd.prog 116 = 1 := by kernel_rfl
theorem agg116 : aggT Tryd.prog 116 = some false := by kernel_rfl
theorem zero116 : zeroV Tryd.prog 116 = some (.nilf) := by kernel_rfl
theorem by116 : bytesT Tryd.prog 116 ≤ 1024 := of_decide_eq_true (by kernel_rfl)
theorem sz117 : sizeT Tryd.prog 117 = 1 := by kernel_rfl
theorem agg117 : aggT Tryd.prog 117 = some false := by kernel_rfl
theorem zero117 : zeroV Tryd.prog 117 = some (.nilf) := by kernel_rfl
theorem by117 : bytesT Tryd.prog 117 ≤ 1024 := of_decide_eq_true (by kernel_rfl)
theorem sz118 : sizeT Tryd.prog 118 = 1 := by kernel_rfl
theorem agg118 : aggT Tryd.prog 118 = some false := by kernel_rfl
theorem zero118 : zeroV Tryd.prog 118 = some (.nilf) := by kernel_rfl
theorem by118 : bytesT Tryd.prog 118 ≤ 1024 := of_decide_eq_true (by kernel_rfl)
theorem sz119 : sizeT Tryd.prog 119 = 3 := by kernel_rfl
theorem agg119 : aggT Tryd.prog 119 = some true := by kernel_rfl
theorem zero119 : zeroV Tryd.prog 119 = some (.agg [.nilp, .int .u64 0, .int .i64 0]) := by kernel_rfl
theorem by119 : bytesT Tryd.prog 119 ≤ 1024 := of_decide_eq_true (by kernel_rfl)
theorem bld119 (ps : List (Nat × V)) : build Tryd.prog 119 ps = (fillV (fun i => [(0, 1), (1, 1), (2, 1)][i]?) [.nilp, .int .u64 0, .int .i64 0] ps).map .agg := by kernel_rfl
theorem sz120 : sizeT Tryd.prog 120 = 3 := by kernel_rfl
theorem agg120 : aggT Tryd.prog 120 = some true := by kernel_rfl
theorem zero120 : zeroV Tryd.prog 120 = some (.agg [.nilp, .int .u64 0, .int .i64 0]) := by kernel_rfl
theorem by120 : bytesT Tryd.prog 120 ≤ 1024 := of_decide_eq_true (by kernel_rfl)
theorem bld120 (ps : List (Nat × V)) : build Tryd.prog 120 ps = (fillV (fun i => [(0, 1), (1, 1), (2, 1)][i]?) [.nilp, .int .u64 0, .int .i64 0] ps).map .agg := by kernel_rfl
theorem sz121 : sizeT Tryd.prog 121 = 1 := by kernel_rfl
theorem agg121 : aggT Tryd.prog 121 = some false := by kernel_rfl
theorem zero121 : zeroV Tryd.prog 121 = some (.nilf) := by kernel_rfl
theorem by121 : bytesT Tryd.prog 121 ≤ 1024 := of_decide_eq_true (by kernel_rfl)
theorem sz122 : sizeT Tryd.prog 122 = 6 := by kernel_rfl
theorem agg122 : aggT Tryd.prog 122 = some true := by kernel_rfl
theorem zero122 : zeroV Tryd.prog 122 = some (.agg [.nilp, .int .i64 0, .nilf, .int .u64 0, .int .i64 0, .int .i64 0]) := by kernel_rfl
theorem by122 : bytesT Tryd.prog 122 ≤ 1024 := of_decide_eq_true (by kernel_rfl)
theorem bld122 (ps : List (Nat × V)) : build Tryd.prog 122 ps = (fillV (fun i => [(0, 1), (1, 1), (2, 1), (3, 1), (4, 1), (5, 1)][i]?) [.nilp, .int .i64 0, .nilf, .int .u64 0, .int .i64 0, .int .i64 0] ps).map .agg := by kernel_rfl
theorem sz123 : sizeT Tryd.prog 123 = 6 := by kernel_rfl
theorem agg123 : aggT Tryd.prog 123 = some true := by kernel_rfl
theorem zero123 : zeroV Tryd.prog 123 = some (.agg [.nilp, .int .i64 0, .nilf, .int .u64 0, .int .i64 0, .int .i64 0]) := by kernel_rfl
theorem by123 : bytesT Tryd.prog 123 ≤ 1024 := of_decide_eq_true (by kernel_rfl)
theorem bld123 (ps : List (Nat × V)) : build Tryd.prog 123 ps = (fillV (fun i => [(0, 1), (1, 1), (2, 1), (3, 1), (4, 1), (5, 1)][i]?) [.nilp, .int .i64 0, .nilf, .int .u64 0, .int .i64 0, .int .i64 0] ps).map .agg := by kernel_rfl
theorem sz124 : sizeT Tryd.prog 124 = 1 := by kernel_rfl
theorem agg124 : aggT Tryd.prog 124 = some false := by kernel_rfl
theorem zero124 : zeroV Tryd.prog 124 = some (.nilf) := by kernel_rfl
theorem by124 : bytesT Tryd.prog 124 ≤ 1024 := of_decide_eq_true (by kernel_rfl)
theorem sz125 : sizeT Tryd.prog 125 = 2 := by kernel_rfl
theorem agg125 : aggT Tryd.prog 125 = some true := by kernel_rfl
theorem zero125 : zeroV Tryd.prog 125 = some (.agg [.nilp, .int .u64 0]) := by kernel_rfl
theorem by125 : bytesT Tryd.prog 125 ≤ 1024 := of_decide_eq_true (by kernel_rfl)
theorem bld125 (ps : List (Nat × V)) : build Tryd.prog 125 ps = (fillV (fun i => [(0, 1), (1, 1)][i]?) [.nilp, .int .u64 0] ps).map .agg := by kernel_rfl
theorem sz126 : sizeT Tryd.prog 126 = 2 := by kernel_rfl
theorem agg126 : aggT Tryd.prog 126 = some true := by kernel_rfl
theorem zero126 : zeroV Tryd.prog 126 = some (.agg [.nilp, .int .u64 0]) := by kernel_rfl
theorem by126 : bytesT Tryd.prog 126 ≤ 1024 := of_decide_eq_true (by kernel_rfl)
theorem bld126 (ps : List (Nat × V)) : build Tryd.prog 126 ps = (fillV (fun i => [(0, 1), (1, 1)][i]?) [.nilp, .int .u64 0] ps).map .agg := by kernel_rfl
theorem sz127 : sizeT Tryd.prog 127 = 2 := by kernel_rfl
theorem agg127 : aggT Tryd.prog 127 = some true := by kernel_rfl
theorem zero127 : zeroV Tryd.prog 127 = some (.agg [.int .i64 0, .int .i64 0]) := by kernel_rfl
theorem by127 : bytesT Tryd.prog 127 ≤ 1024 := of_decide_eq_true (by kernel_rfl)
theorem bld127 (ps : List (Nat × V)) : build Tryd.prog 127 ps = (fillV (fun i => [(0, 1), (1, 1)][i]?) [.int .i64 0, .int .i64 0] ps).map .agg := by kernel_rfl
theorem sz128 : sizeT Tryd.prog 128 = 2 := by kernel_rfl
theorem agg128 : aggT Tryd.prog 128 = some true := by kernel_rfl
theorem zero128 : zeroV Tryd.prog 128 = some (.agg [.int .i64 0, .int .i64 0]) := by kernel_rfl
theorem by128 : bytesT Tryd.prog 128 ≤ 1024 := of_decide_eq_true (by kernel_rfl)
theorem bld128 (ps : List (Nat × V)) : build Tryd.prog 128 ps = (fillV (fun i => [(0, 1), (1, 1)][i]?) [.int .i64 0, .int .i64 0] ps).map .agg := by kernel_rfl
theorem sz130 : sizeT Tryd.prog 130 = 1 := by kernel_rfl
theorem agg130 : aggT Tryd.prog 130 = some false := by kernel_rfl
theorem zero130 : zeroV Tryd.prog 130 = some (.nilf) := by kernel_rfl
theorem by130 : bytesT Tryd.prog 130 ≤ 1024 := of_decide_eq_true (by kernel_rfl)
theorem sz131 : sizeT Tryd.prog 131 = 1 := by kernel_rfl
theorem agg131 : aggT Tryd.prog 131 = some false := by kernel_rfl
theorem zero131 : zeroV Tryd.prog 131 = some (.nilf) := by kernel_rfl
theorem by131 : bytesT Tryd.prog 131 ≤ 1024 := of_decide_eq_true (by kernel_rfl)
theorem sz132 : sizeT Tryd.prog 132 = 1 := by kernel_rfl
theorem agg132 : aggT Tryd.prog 132 = some false := by kernel_rfl
theorem zero132 : zeroV Tryd.prog 132 = some (.nilf) := by kernel_rfl
theorem by132 : bytesT Tryd.prog 132 ≤ 1024 := of_decide_eq_true (by kernel_rfl)
theorem sz133 : sizeT Tryd.prog 133 = 1 := by kernel_rfl
theorem agg133 : aggT Tryd.prog 133 = some false := by kernel_rfl
theorem zero133 : zeroV Tryd.prog 133 = some (.int .u8 0) := by kernel_rfl
theorem by133 : bytesT Tryd.prog 133 ≤ 1024 := of_decide_eq_true (by kernel_rfl)
theorem sz135 : sizeT Tryd.prog 135 = 1 := by kernel_rfl
theorem agg135 : aggT Tryd.prog 135 = some false := by kernel_rfl
theorem zero135 : zeroV Tryd.prog 135 = some (.nilf) := by kernel_rfl
theorem by135 : bytesT Tryd.prog 135 ≤ 1024 := of_decide_eq_true (by kernel_rfl)
theorem sz136 : sizeT Tryd.prog 136 = 1 := by kernel_rfl
theorem agg136 : aggT Tryd.prog 136 = some true := by kernel_rfl
theorem zero136 : zeroV Tryd.prog 136 = some (.agg [.nilp]) := by kernel_rfl
theorem by136 : bytesT Tryd.prog 136 ≤ 1024 := of_decide_eq_true (by kernel_rfl)
theorem bld136 (ps : List (Nat × V)) : build Tryd.prog 136 ps = (fillV (fun i => [(0, 1)][i]?) [.nilp] ps).map .agg := by kernel_rfl
theorem sz137 : sizeT Tryd.prog 137 = 1 := by kernel_rfl
theorem agg137 : aggT Tryd.prog 137 = some true := by kernel_rfl
theorem zero137 : zeroV Tryd.prog 137 = some (.agg [.nilp]) := by kernel_rfl
theorem by137 : bytesT Tryd.prog 137 ≤ 1024 := of_decide_eq_true (by kernel_rfl)
theorem bld137 (ps : List (Nat × V)) : build Tryd.prog 137 ps = (fillV (fun i => [(0, 1)][i]?) [.nilp] ps).map .agg := by kernel_rfl
theorem sz140 : sizeT Tryd.prog 140 = 2 := by kernel_rfl
theorem agg140 : aggT Tryd.prog 140 = some true := by kernel_rfl
theorem zero140 : zeroV Tryd.prog 140 = some (.agg [.int .i32 0, .int .u32 0]) := by kernel_rfl
theorem by140 : bytesT Tryd.prog 140 ≤ 1024 := of_decide_eq_true (by kernel_rfl)
theorem bld140 (ps : List (Nat × V)) : build Tryd.prog 140 ps = (fillV (fun i => [(0, 1), (1, 1)][i]?) [.int .i32 0, .int .u32 0] ps).map .agg := by kernel_rfl
theorem sz141 : sizeT Tryd.prog 141 = 2 := by kernel_rfl
theorem agg141 : aggT Tryd.prog 141 = some true := by kernel_rfl
theorem zero141 : zeroV Tryd.prog 141 = some (.agg [.int .i32 0, .int .u32 0]) := by kernel_rfl
theorem by141 : bytesT Tryd.prog 141 ≤ 1024 := of_decide_eq_true (by kernel_rfl)
theorem bld141 (ps : List (Nat × V)) : build Tryd.prog 141 ps = (fillV (fun i => [(0, 1), (1, 1)][i]?) [.int .i32 0, .int .u32 0] ps).map .agg := by kernel_rfl
theorem sz142 : sizeT Tryd.prog 142 = 2 := by kernel_rfl
theorem agg142 : aggT Tryd.prog 142 = some true := by kernel_rfl
theorem zero142 : zeroV Tryd.prog 142 = some (.agg [.int .i32 0, .int .u32 0]) := by kernel_rfl
theorem by142 : bytesT Tryd.prog 142 ≤ 1024 := of_decide_eq_true (by kernel_rfl)
theorem bld142 (ps : List (Nat × V)) : build Tryd.prog 142 ps = (fillV (fun i => [(0, 0), (0, 2)][i]?) [.int .i32 0, .int .u32 0] ps).map .agg := by kernel_rfl
theorem sz143 : sizeT Tryd.prog 143 = 2 := by kernel_rfl
theorem agg143 : aggT Tryd.prog 143 = some true := by kernel_rfl
theorem zero143 : zeroV Tryd.prog 143 = some (.agg [.int .i32 0, .int .u32 0]) := by kernel_rfl
theorem by143 : bytesT Tryd.prog 143 ≤ 1024 := of_decide_eq_true (by kernel_rfl)
theorem bld143 (ps : List (Nat × V)) : build Tryd.prog 143 ps = (fillV (fun i => [(0, 0), (0, 2)][i]?) [.int .i32 0, .int .u32 0] ps).map .agg := by kernel_rfl
theorem sz144 : sizeT Tryd.prog 144 = 3 := by kernel_rfl
theorem agg144 : aggT Tryd.prog 144 = some true := by kernel_rfl
theorem zero144 : zeroV Tryd.prog 144 = some (.agg [.nilp, .int .i32 0, .int .u32 0]) := by kernel_rfl
theorem by144 : bytesT Tryd.prog 144 ≤ 1024 := of_decide_eq_true (by kernel_rfl)
theorem bld144 (ps : List (Nat × V)) : build Tryd.prog 144 ps = (fillV (fun i => [(0, 1), (1, 2)][i]?) [.nilp, .int .i32 0, .int .u32 0] ps).map .agg := by kernel_rfl
theorem sz145 : sizeT Tryd.prog 145 = 3 := by kernel_rfl
theorem agg145 : aggT Tryd.prog 145 = some true := by kernel_rfl
theorem zero145 : zeroV Tryd.prog 145 = some (.agg [.nilp, .int .i32 0, .int .u32 0]) := by kernel_rfl
theorem by145 : bytesT Tryd.prog 145 ≤ 1024 := of_decide_eq_true (by kernel_rfl)
theorem bld145 (ps : List (Nat × V)) : build Tryd.prog 145 ps = (fillV (fun i => [(0, 1), (1, 2)][i]?) [.nilp, .int .i32 0, .int .u32 0] ps).map .agg := by kernel_rfl
theorem sz146 : sizeT Tryd.prog 146 = 1 := by kernel_rfl
theorem agg146 : aggT Tryd.prog 146 = some false := by kernel_rfl
theorem zero146 : zeroV Tryd.prog 146 = some (.nilf) := by kernel_rfl
theorem by146 : bytesT Tryd.prog 146 ≤ 1024 := of_decide_eq_true (by kernel_rfl)
theorem sz147 : sizeT Tryd.prog 147 = 8 := by kernel_rfl
theorem agg147 : aggT Tryd.prog 147 = some true := by kernel_rfl
theorem zero147 : zeroV Tryd.prog 147 = some (.agg [.nilp, .int .u8 0, .int .u64 0, .nilf, .bool false, .int .u64 0, .bool false, .int .i64 0]) := by kernel_rfl
theorem by147 : bytesT Tryd.prog 147 ≤ 1024 := of_decide_eq_true (by kernel_rfl)
theorem bld147 (ps : List (Nat × V)) : build Tryd.prog 147 ps = (fillV (fun i => [(0, 1), (1, 2), (3, 1), (4, 1), (5, 1), (6, 1), (7, 1)][i]?) [.nilp, .int .u8 0, .int .u64 0, .nilf, .bool false, .int .u64 0, .bool false, .int .i64 0] ps).map .agg := by kernel_rfl
theorem sz148 : sizeT Tryd.prog 148 = 8 := by kernel_rfl
theorem agg148 : aggT Tryd.prog 148 = some true := by kernel_rfl
theorem zero148 : zeroV Tryd.prog 148 = some (.agg [.nilp, .int .u8 0, .int .u64 0, .nilf, .bool false, .int .u64 0, .bool false, .int .i64 0]) := by kernel_rfl
theorem by148 : bytesT Tryd.prog 148 ≤ 1024 := of_decide_eq_true (by kernel_rfl)
theorem bld148 (ps : List (Nat × V)) : build Tryd.prog 148 ps = (fillV (fun i => [(0, 1), (1, 2), (3, 1), (4, 1), (5, 1), (6, 1), (7, 1)][i]?) [.nilp, .int .u8 0, .int .u64 0, .nilf, .bool false, .int .u64 0, .bool false, .int .i64 0] ps).map .agg := by kernel_rfl
theorem sz149 : sizeT Tryd.prog 149 = 1 := by kernel_rfl
theorem agg149 : aggT Tryd.prog 149 = some false := by kernel_rfl
theorem zero149 : zeroV Tryd.prog 149 = some (.nilf) := by kernel_rfl
theorem by149 : bytesT Tryd.prog 149 ≤ 1024 := of_decide_eq_true (by kernel_rfl)
theorem sz150 : sizeT Tryd.prog 150 = 1 := by kernel_rfl
theorem agg150 : aggT Tryd.prog 150 = some false := by kernel_rfl
theorem zero150 : zeroV Tryd.prog 150 = some (.nilf) := by kernel_rfl
theorem by150 : bytesT Tryd.prog 150 ≤ 1024 := of_decide_eq_true (by kernel_rfl)
theorem sz151 : sizeT Tryd.prog 151 = 13 := by kernel_rfl
theorem agg151 : aggT Tryd.prog 151 = some true := by kernel_rfl
theorem zero151 : zeroV Tryd.prog 151 = some (.agg [.nilp, .int .u8 0, .int .i64 0, .int .u32 0, .int .i64 0, .bool false, .int .u64 0, .nils, .nils, .bool false, .nils, .bool false, .int .i64 0]) := by kernel_rfl
theorem by151 : bytesT Tryd.prog 151 ≤ 1024 := of_decide_eq_true (by kernel_rfl)
theorem bld151 (ps : List (Nat × V)) : build Tryd.prog 151 ps = (fillV (fun i => [(0, 1), (1, 4), (5, 1), (6, 1), (7, 1), (8, 1), (9, 1), (10, 3)][i]?) [.nilp, .int .u8 0, .int .i64 0, .int .u32 0, .int .i64 0, .bool false, .int .u64 0, .nils, .nils, .bool false, .nils, .bool false, .int .i64 0] ps).map .agg := by kernel_rfl
theorem sz152 : sizeT Tryd.prog 152 = 13 := by kernel_rfl
theorem agg152 : aggT Tryd.prog 152 = some true := by kernel_rfl
theorem zero152 : zeroV Tryd.prog 152 = some (.agg [.nilp, .int .u8 0, .int .i64 0, .int .u32 0, .int .i64 0, .bool false, .int .u64 0, .nils, .nils, .bool false, .nils, .bool false, .int .i64 0]) := by kernel_rfl
theorem by152 : bytesT Tryd.prog 152 ≤ 1024 := of_decide_eq_true (by kernel_rfl)
theorem bld152 (ps : List (Nat × V)) : build Tryd.prog 152 ps = (fillV (fun i => [(0, 1), (1, 4), (5, 1), (6, 1), (7, 1), (8, 1), (9, 1), (10, 3)][i]?) [.nilp, .int .u8 0, .int .i64 0, .int .u32 0, .int .i64 0, .bool false, .int .u64 0, .nils, .nils, .bool false, .nils, .bool false, .int .i64 0] ps).map .agg := by kernel_rfl
theorem sz154 : sizeT Tryd.prog 154 = 1 := by kernel_rfl
theorem agg154 : aggT Tryd.prog 154 = some false := by kernel_rfl
theorem zero154 : zeroV Tryd.prog 154 = some (.nilf) := by kernel_rfl
theorem by154 : bytesT Tryd.prog 154 ≤ 1024 := of_decide_eq_true (by kernel_rfl)
theorem sz155 : sizeT Tryd.prog 155 = 4 := by kernel_rfl
theorem agg155 : aggT Tryd.prog 155 = some true := by kernel_rfl
theorem zero155 : zeroV Tryd.prog 155 = some (.agg [.int .u8 0, .int .i64 0, .int .u64 0, .int .u64 0]) := by kernel_rfl
theorem by155 : bytesT Tryd.prog 155 ≤ 1024 := of_decide_eq_true (by kernel_rfl)
theorem bld155 (ps : List (Nat × V)) : build Tryd.prog 155 ps = (fillV (fun i => [(0, 1), (1, 1), (2, 1), (3, 1)][i]?) [.int .u8 0, .int .i64 0, .int .u64 0, .int .u64 0] ps).map .agg := by kernel_rfl
theorem sz156 : sizeT Tryd.prog 156 = 4 := by kernel_rfl
theorem agg156 : aggT Tryd.prog 156 = some true := by kernel_rfl
theorem zero156 : zeroV Tryd.prog 156 = some (.agg [.int .u8 0, .int .i64 0, .int .u64 0, .int .u64 0]) := by kernel_rfl
theorem by156 : bytesT Tryd.prog 156 ≤ 1024 := of_decide_eq_true (by kernel_rfl)
theorem bld156 (ps : List (Nat × V)) : build Tryd.prog 156 ps = (fillV (fun i => [(0, 1), (1, 1), (2, 1), (3, 1)][i]?) [.int .u8 0, .int .i64 0, .int .u64 0, .int .u64 0] ps).map .agg := by kernel_rfl
theorem sz157 : sizeT Tryd.prog 157 = 1 := by kernel_rfl
theorem agg157 : aggT Tryd.prog 157 = some false := by kernel_rfl
theorem zero157 : zeroV Tryd.prog 157 = some (.nilf) := by kernel_rfl
theorem by157 : bytesT Tryd.prog 157 ≤ 1024 := of_decide_eq_true (by kernel_rfl)
theorem sz158 : sizeT Tryd.prog 158 = 1 := by kernel_rfl
theorem agg158 : aggT Tryd.prog 158 = some false := by kernel_rfl
theorem zero158 : zeroV Tryd.prog 158 = some (.nilf) := by kernel_rfl
theorem by158 : bytesT Tryd.prog 158 ≤ 1024 := of_decide_eq_true (by kernel_rfl)
theorem sz159 : sizeT Tryd.prog 159 = 1 := by kernel_rfl
theorem agg159 : aggT Tryd.prog 159 = some false := by kernel_rfl
theorem zero159 : zeroV Tryd.prog 159 = some (.nilf) := by kernel_rfl
theorem by159 : bytesT Tryd.prog 159 ≤ 1024 := of_decide_eq_true (by kernel_rfl)
theorem sz160 : sizeT Tryd.prog 160 = 1 := by kernel_rfl
theorem agg160 : aggT Tryd.prog 160 = some false := by kernel_rfl
theorem zero160 : zeroV Tryd.prog 160 = some (.nilf) := by kernel_rfl
theorem by160 : bytesT Tryd.prog 160 ≤ 1024 := of_decide_eq_true (by kernel_rfl)
theorem sz162 : sizeT Tryd.prog 162 = 2 := by kernel_rfl
theorem agg162 : aggT Tryd.prog 162 = some true := by kernel_rfl
theorem zero162 : zeroV Tryd.prog 162 = some (.agg [.int .u64 0, .int .u64 0]) := by kernel_rfl
theorem by162 : bytesT Tryd.prog 162 ≤ 1024 := of_decide_eq_true (by kernel_rfl)
theorem bld162 (ps : List (Nat × V)) : build Tryd.prog 162 ps = (fillV (fun i => some (i * 1, 1)) [.int .u64 0, .int .u64 0] ps).map .agg := by kernel_rfl
theorem sz163 : sizeT Tryd.prog 163 = 2 := by kernel_rfl
theorem agg163 : aggT Tryd.prog 163 = some true := by kernel_rfl
theorem zero163 : zeroV Tryd.prog 163 = some (.agg [.int .u64 0, .int .u64 0]) := by kernel_rfl
theorem by163 : bytesT Tryd.prog 163 ≤ 1024 := of_decide_eq_true (by kernel_rfl)
theorem bld163 (ps : List (Nat × V)) : build Tryd.prog 163 ps = (fillV (fun i => some (i * 1, 1)) [.int .u64 0, .int .u64 0] ps).map .agg := by kernel_rfl
theorem sz164 : sizeT Tryd.prog 164 = 1 := by kernel_rfl
theorem agg164 : aggT Tryd.prog 164 = some false := by kernel_rfl
theorem zero164 : zeroV Tryd.prog 164 = some (.nilf) := by kernel_rfl
theorem by164 : bytesT Tryd.prog 164 ≤ 1024 := of_decide_eq_true (by kernel_rfl)
theorem sz165 : sizeT Tryd.prog 165 = 1 := by kernel_rfl
theorem agg165 : aggT Tryd.prog 165 = some false := by kernel_rfl
theorem zero165 : zeroV Tryd.prog 165 = some (.nilf) := by kernel_rfl
theorem by165 : bytesT Tryd.prog 165 ≤ 1024 := of_decide_eq_true (by kernel_rfl)
theorem sz167 : sizeT Tryd.prog 167 = 1 := by kernel_rfl
theorem agg167 : aggT Tryd.prog 167 = some false := by kernel_rfl
theorem zero167 : zeroV Tryd.prog 167 = some (.nilf) := by kernel_rfl
theorem by167 : bytesT Tryd.prog 167 ≤ 1024 := of_decide_eq_true (by kernel_rfl)
theorem sz168 : sizeT Tryd.prog 168 = 1 := by kernel_rfl
theorem agg168 : aggT Tryd.prog 168 = some false := by kernel_rfl
theorem zero168 : zeroV Tryd.prog 168 = some (.nils) := by kernel_rfl
theorem by168 : bytesT Tryd.prog 168 ≤ 1024 := of_decide_eq_true (by kernel_rfl)
theorem elem168 : elemT Tryd.prog 168 = 1 := by kernel_rfl
theorem sz169 : sizeT Tryd.prog 169 = 1 := by kernel_rfl
theorem agg169 : aggT Tryd.prog 169 = some false := by kernel_rfl
theorem zero169 : zeroV Tryd.prog 169 = some (.nilf) := by kernel_rfl
theorem by169 : bytesT Tryd.prog 169 ≤ 1024 := of_decide_eq_true (by kernel_rfl)
theorem sz170 : sizeT Tryd.prog 170 = 1 := by kernel_rfl
theorem agg170 : aggT Tryd.prog 170 = some false := by kernel_rfl
theorem zero170 : zeroV Tryd.prog 170 = some (.nils) := by kernel_rfl
theorem by170 : bytesT Tryd.prog 170 ≤ 1024 := of_decide_eq_true (by kernel_rfl)
theorem elem170 : elemT Tryd.prog 170 = 9 := by kernel_rfl
theorem sz171 : sizeT Tryd.prog 171 = 8 := by kernel_rfl
theorem agg171 : aggT Tryd.prog 171 = some true := by kernel_rfl
theorem zero171 : zeroV Tryd.prog 171 = some (.agg [.int .u64 0, .int .u64 0, .int .u64 0, .int .u64 0, .int .u64 0, .int .u64 0, .int .u64 0, .int .u64 0]) := by kernel_rfl
theorem by171 : bytesT Tryd.prog 171 ≤ 1024 := of_decide_eq_true (by kernel_rfl)
theorem bld171 (ps : List (Nat × V)) : build Tryd.prog 171 ps = (fillV (fun i => some (i * 1, 1)) [.int .u64 0, .int .u64 0, .int .u64 0, .int .u64 0, .int .u64 0, .int .u64 0, .int .u64 0, .int .u64 0] ps).map .agg := by kernel_rfl
theorem sz172 : sizeT Tryd.prog 172 = 9 := by kernel_rfl
theorem agg172 : aggT Tryd.prog 172 = some true := by kernel_rfl
theorem zero172 : zeroV Tryd.prog 172 = some (.agg [.int .i64 0, .int .u64 0, .int .u64 0, .int .u64 0, .int .u64 0, .int .u64 0, .int .u64 0, .int .u64 0, .int .u64 0]) := by kernel_rfl
theorem by172 : bytesT Tryd.prog 172 ≤ 1024 := of_decide_eq_true (by kernel_rfl)
theorem bld172 (ps : List (Nat × V)) : build Tryd.prog 172 ps = (fillV (fun i => [(0, 1), (1, 8)][i]?) [.int .i64 0, .int .u64 0, .int .u64 0, .int .u64 0, .int .u64 0, .int .u64 0, .int .u64 0, .int .u64 0, .int .u64 0] ps).map .agg := by kernel_rfl
theorem sz173 : sizeT Tryd.prog 173 = 9 := by kernel_rfl
theorem agg173 : aggT Tryd.prog 173 = some true := by kernel_rfl
theorem zero173 : zeroV Tryd.prog 173 = some (.agg [.int .i64 0, .int .u64 0, .int .u64 0, .int .u64 0, .int .u64 0, .int .u64 0, .int .u64 0, .int .u64 0, .int .u64 0]) := by kernel_rfl
theorem by173 : bytesT Tryd.prog 173 ≤ 1024 := of_decide_eq_true (by kernel_rfl)
theorem bld173 (ps : List (Nat × V)) : build Tryd.prog 173 ps = (fillV (fun i => [(0, 1), (1, 8)][i]?) [.int .i64 0, .int .u64 0, .int .u64 0, .int .u64 0, .int .u64 0, .int .u64 0, .int .u64 0, .int .u64 0, .int .u64 0] ps).map .agg := by kernel_rfl
theorem sz174 : sizeT Tryd.prog 174 = 1 := by kernel_rfl
theorem agg174 : aggT Tryd.prog 174 = some false := by kernel_rfl
theorem zero174 : zeroV Tryd.prog 174 = some (.nilf) := by kernel_rfl
theorem by174 : bytesT Tryd.prog 174 ≤ 1024 := of_decide_eq_true (by kernel_rfl)
theorem sz175 : sizeT Tryd.prog 175 = 1 := by kernel_rfl
theorem agg175 : aggT Tryd.prog 175 = some false := by kernel_rfl
theorem zero175 : zeroV Tryd.prog 175 = some (.nilf) := by kernel_rfl
theorem by175 : bytesT Tryd.prog 175 ≤ 1024 := of_decide_eq_true (by kernel_rfl)
theorem sz176 : sizeT Tryd.prog 176 = 6 := by kernel_rfl
theorem agg176 : aggT Tryd.prog 176 = some true := by kernel_rfl
theorem zero176 : zeroV Tryd.prog 176 = some (.agg [.int .i64 0, .int .u8 0, .int .i64 0, .int .u64 0, .int .u64 0, .bool false]) := by kernel_rfl
theorem by176 : bytesT Tryd.prog 176 ≤ 1024 := of_decide_eq_true (by kernel_rfl)
theorem bld176 (ps : List (Nat × V)) : build Tryd.prog 176 ps = (fillV (fun i => [(0, 1), (1, 5)][i]?) [.int .i64 0, .int .u8 0, .int .i64 0, .int .u64 0, .int .u64 0, .bool false] ps).map .agg := by kernel_rfl
theorem sz177 : sizeT Tryd.prog 177 = 6 := by kernel_rfl
theorem agg177 : aggT Tryd.prog 177 = some true := by kernel_rfl
theorem zero177 : zeroV Tryd.prog 177 = some (.agg [.int .i64 0, .int .u8 0, .int .i64 0, .int .u64 0, .int .u64 0, .bool false]) := by kernel_rfl
theorem by177 : bytesT Tryd.prog 177 ≤ 1024 := of_decide_eq_true (by kernel_rfl)
theorem bld177 (ps : List (Nat × V)) : build Tryd.prog 177 ps = (fillV (fun i => [(0, 1), (1, 5)][i]?) [.int .i64 0, .int .u8 0, .int .i64 0, .int .u64 0, .int .u64 0, .bool false] ps).map .agg := by kernel_rfl
theorem sz178 : sizeT Tryd.prog 178 = 2 := by kernel_rfl
theorem agg178 : aggT Tryd.prog 178 = some true := by kernel_rfl
theorem zero178 : zeroV Tryd.prog 178 = some (.agg [.nils, .nils]) := by kernel_rfl
theorem by178 : bytesT Tryd.prog 178 ≤ 1024 := of_decide_eq_true (by kernel_rfl)
theorem bld178 (ps : List (Nat × V)) : build Tryd.prog 178 ps = (fillV (fun i => [(0, 1), (1, 1)][i]?) [.nils, .nils] ps).map .agg := by kernel_rfl
theorem sz179 : sizeT Tryd.prog 179 = 2 := by kernel_rfl
theorem agg179 : aggT Tryd.prog 179 = some true := by kernel_rfl
theorem zero179 : zeroV Tryd.prog 179 = some (.agg [.nils, .nils]) := by kernel_rfl
theorem by179 : bytesT Tryd.prog 179 ≤ 1024 := of_decide_eq_true (by kernel_rfl)
theorem bld179 (ps : List (Nat × V)) : build Tryd.prog 179 ps = (fillV (fun i => [(0, 1), (1, 1)][i]?) [.nils, .nils] ps).map .agg := by kernel_rfl
theorem sz180 : sizeT Tryd.prog 180 = 1 := by kernel_rfl
theorem agg180 : aggT Tryd.prog 180 = some false := by kernel_rfl
theorem zero180 : zeroV Tryd.prog 180 = some (.nilf) := by kernel_rfl
theorem by180 : bytesT Tryd.prog 180 ≤ 1024 := of_decide_eq_true (by kernel_rfl)
theorem sz182 : sizeT Tryd.prog 182 = 1 := by kernel_rfl
theorem agg182 : aggT Tryd.prog 182 = some false := by kernel_rfl
theorem zero182 : zeroV Tryd.prog 182 = some (.nils) := by kernel_rfl
theorem by182 : bytesT Tryd.prog 182 ≤ 1024 := of_decide_eq_true (by kernel_rfl)
theorem elem182 : elemT Tryd.prog 182 = 2 := by kernel_rfl
theorem sz183 : sizeT Tryd.prog 183 = 1 := by kernel_rfl
theorem agg183 : aggT Tryd.prog 183 = some false := by kernel_rfl
theorem zero183 : zeroV Tryd.prog 183 = some (.nilf) := by kernel_rfl
theorem by183 : bytesT Tryd.prog 183 ≤ 1024 := of_decide_eq_true (by kernel_rfl)
theorem sz184 : sizeT Tryd.prog 184 = 1 := by kernel_rfl
theorem agg184 : aggT Tryd.prog 184 = some false := by kernel_rfl
theorem zero184 : zeroV Tryd.prog 184 = some (.nilf) := by kernel_rfl
theorem by184 : bytesT Tryd.prog 184 ≤ 1024 := of_decide_eq_true (by kernel_rfl)
theorem sz185 : sizeT Tryd.prog 185 = 1 := by kernel_rfl
theorem agg185 : aggT Tryd.prog 185 = some false := by kernel_rfl
theorem zero185 : zeroV Tryd.prog 185 = some (.nilf) := by kernel_rfl
theorem by185 : bytesT Tryd.prog 185 ≤ 1024 := of_decide_eq_true (by kernel_rfl)
theorem sz186 : sizeT Tryd.prog 186 = 1 := by kernel_rfl
theorem agg186 : aggT Tryd.prog 186 = some false := by kernel_rfl
theorem zero186 : zeroV Tryd.prog 186 = some (.nilf) := by kernel_rfl
theorem by186 : bytesT Tryd.prog 186 ≤ 1024 := of_decide_eq_true (by kernel_rfl)
theorem sz187 : sizeT Tryd.prog 187 = 1 := by kernel_rfl
theorem agg187 : aggT Tryd.prog 187 = some false := by kernel_rfl
theorem zero187 : zeroV Tryd.prog 187 = some (.nilf) := by kernel_rfl
theorem by187 : bytesT Tryd.prog 187 ≤ 1024 := of_decide_eq_true (by kernel_rfl)
theorem sz188 : sizeT Tryd.prog 188 = 1 := by kernel_rfl
theorem agg188 : aggT Tryd.prog 188 = some false := by kernel_rfl
theorem zero188 : zeroV Tryd.prog 188 = some (.nilf) := by kernel_rfl
theorem by188 : bytesT Tryd.prog 188 ≤ 1024 := of_decide_eq_true (by kernel_rfl)
theorem sz189 : sizeT Tryd.prog 189 = 1 := by kernel_rfl
theorem agg189 : aggT Tryd.prog 189 = some false := by kernel_rfl
theorem zero189 : zeroV Tryd.prog 189 = some (.nilf) := by kernel_rfl
theorem by189 : bytesT Tryd.prog 189 ≤ 1024 := of_decide_eq_true (by kernel_rfl)
theorem sz190 : sizeT Tryd.prog 190 = 1 := by kernel_rfl
theorem agg190 : aggT Tryd.prog 190 = some false := by kernel_rfl
theorem zero190 : zeroV Tryd.prog 190 = some (.nilf) := by kernel_rfl
theorem by190 : bytesT Tryd.prog 190 ≤ 1024 := of_decide_eq_true (by kernel_rfl)
theorem sz191 : sizeT Tryd.prog 191 = 1 := by kernel_rfl
theorem agg191 : aggT Tryd.prog 191 = some false := by kernel_rfl
theorem zero191 : zeroV Tryd.prog 191 = some (.nilf) := by kernel_rfl
theorem by191 : bytesT Tryd.prog 191 ≤ 1024 := of_decide_eq_true (by kernel_rfl)
theorem sz192 : sizeT Tryd.prog 192 = 1 := by kernel_rfl
theorem agg192 : aggT Tryd.prog 192 = some false := by kernel_rfl
theorem zero192 : zeroV Tryd.prog 192 = some (.nils) := by kernel_rfl
theorem by192 : bytesT Tryd.prog 192 ≤ 1024 := of_decide_eq_true (by kernel_rfl)
theorem elem192 : elemT Tryd.prog 192 = 1 := by kernel_rfl
theorem sz193 : sizeT Tryd.prog 193 = 1 := by kernel_rfl
theorem agg193 : aggT Tryd.prog 193 = some true := by kernel_rfl
theorem zero193 : zeroV Tryd.prog 193 = some (.agg [.nils]) := by kernel_rfl
theorem by193 : bytesT Tryd.prog 193 ≤ 1024 := of_decide_eq_true (by kernel_rfl)
theorem bld193 (ps : List (Nat × V)) : build Tryd.prog 193 ps = (fillV (fun i => [(0, 1)][i]?) [.nils] ps).map .agg := by kernel_rfl
theorem sz194 : sizeT Tryd.prog 194 = 1 := by kernel_rfl
theorem agg194 : aggT Tryd.prog 194 = some true := by kernel_rfl
theorem zero194 : zeroV Tryd.prog 194 = some (.agg [.nils]) := by kernel_rfl
theorem by194 : bytesT Tryd.prog 194 ≤ 1024 := of_decide_eq_true (by kernel_rfl)
theorem bld194 (ps : List (Nat × V)) : build Tryd.prog 194 ps = (fillV (fun i => [(0, 1)][i]?) [.nils] ps).map .agg := by kernel_rfl
theorem sz195 : sizeT Tryd.prog 195 = 1 := by kernel_rfl
theorem agg195 : aggT Tryd.prog 195 = some false := by kernel_rfl
theorem zero195 : zeroV Tryd.prog 195 = some (.nils) := by kernel_rfl
theorem by195 : bytesT Tryd.prog 195 ≤ 1024 := of_decide_eq_true (by kernel_rfl)
theorem elem195 : elemT Tryd.prog 195 = 2 := by kernel_rfl
theorem sz196 : sizeT Tryd.prog 196 = 1 := by kernel_rfl
theorem agg196 : aggT Tryd.prog 196 = some false := by kernel_rfl
theorem zero196 : zeroV Tryd.prog 196 = some (.nilf) := by kernel_rfl
theorem by196 : bytesT Tryd.prog 196 ≤ 1024 := of_decide_eq_true (by kernel_rfl)
theorem sz197 : sizeT Tryd.prog 197 = 2 := by kernel_rfl
theorem agg197 : aggT Tryd.prog 197 = some true := by kernel_rfl
theorem zero197 : zeroV Tryd.prog 197 = some (.agg [.str (bs []), .int .i64 0]) := by kernel_rfl
theorem by197 : bytesT Tryd.prog 197 ≤ 1024 := of_decide_eq_true (by kernel_rfl)
theorem bld197 (ps : List (Nat × V)) : build Tryd.prog 197 ps = (fillV (fun i => [(0, 1), (1, 1)][i]?) [.str (bs []), .int .i64 0] ps).map .agg := by kernel_rfl
theorem sz198 : sizeT Tryd.prog 198 = 2 := by kernel_rfl
theorem agg198 : aggT Tryd.prog 198 = some true := by kernel_rfl
theorem zero198 : zeroV Tryd.prog 198 = some (.agg [.str (bs []), .int .i64 0]) := by kernel_rfl
theorem by198 : bytesT Tryd.prog 198 ≤ 1024 := of_decide_eq_true (by kernel_rfl)
theorem bld198 (ps : List (Nat × V)) : build Tryd.prog 198 ps = (fillV (fun i => [(0, 1), (1, 1)][i]?) [.str (bs []), .int .i64 0] ps).map .agg := by kernel_rfl
theorem sz199 : sizeT Tryd.prog 199 = 1 := by kernel_rfl
theorem agg199 : aggT Tryd.prog 199 = some false := by kernel_rfl
theorem zero199 : zeroV Tryd.prog 199 = some (.nilf) := by kernel_rfl
theorem by199 : bytesT Tryd.prog 199 ≤ 1024 := of_decide_eq_true (by kernel_rfl)
theorem sz200 : sizeT Tryd.prog 200 = 1 := by kernel_rfl
theorem agg200 : aggT Tryd.prog 200 = some false := by kernel_rfl
theorem zero200 : zeroV Tryd.prog 200 = some (.nilp) := by kernel_rfl
theorem by200 : bytesT Tryd.prog 200 ≤ 1024 := of_decide_eq_true (by kernel_rfl)
theorem sz201 : sizeT Tryd.prog 201 = 1 := by kernel_rfl
theorem agg201 : aggT Tryd.prog 201 = some false := by kernel_rfl
theorem zero201 : zeroV Tryd.prog 201 = some (.nilf) := by kernel_rfl
theorem by201 : bytesT Tryd.prog 201 ≤ 1024 := of_decide_eq_true (by kernel_rfl)
theorem sz202 : sizeT Tryd.prog 202 = 1 := by kernel_rfl
theorem agg202 : aggT Tryd.prog 202 = some false := by kernel_rfl
theorem zero202 : zeroV Tryd.prog 202 = some (.nilf) := by kernel_rfl
theorem by202 : bytesT Tryd.prog 202 ≤ 1024 := of_decide_eq_true (by kernel_rfl)
theorem sz203 : sizeT Tryd.prog 203 = 1 := by kernel_rfl
theorem agg203 : aggT Tryd.prog 203 = some false := by kernel_rfl
theorem zero203 : zeroV Tryd.prog 203 = some (.nilf) := by kernel_rfl
theorem by203 : bytesT Tryd.prog 203 ≤ 1024 := of_decide_eq_true (by kernel_rfl)
theorem sz204 : sizeT Tryd.prog 204 = 1 := by kernel_rfl
theorem agg204 : aggT Tryd.prog 204 = some false := by kernel_rfl
theorem zero204 : zeroV Tryd.prog 204 = some (.nilf) := by kernel_rfl
theorem by204 : bytesT Tryd.prog 204 ≤ 1024 := of_decide_eq_true (by kernel_rfl)
theorem sz205 : sizeT Tryd.prog 205 = 1 := by kernel_rfl
theorem agg205 : aggT Tryd.prog 205 = some false := by kernel_rfl
theorem zero205 : zeroV Tryd.prog 205 = some (.nilf) := by kernel_rfl
theorem by205 : bytesT Tryd.prog 205 ≤ 1024 := of_decide_eq_true (by kernel_rfl)
theorem sz208 : sizeT Tryd.prog 208 = 1 := by kernel_rfl
theorem agg208 : aggT Tryd.prog 208 = some true := by kernel_rfl
theorem zero208 : zeroV Tryd.prog 208 = some (.agg [.int .u64 0]) := by kernel_rfl
theorem by208 : bytesT Tryd.prog 208 ≤ 1024 := of_decide_eq_true (by kernel_rfl)
theorem bld208 (ps : List (Nat × V)) : build Tryd.prog 208 ps = (fillV (fun i => [(0, 0), (0, 0), (0, 1)][i]?) [.int .u64 0] ps).map .agg := by kernel_rfl
theorem sz209 : sizeT Tryd.prog 209 = 1 := by kernel_rfl
theorem agg209 : aggT Tryd.prog 209 = some true := by kernel_rfl
theorem zero209 : zeroV Tryd.prog 209 = some (.agg [.int .u64 0]) := by kernel_rfl
theorem by209 : bytesT Tryd.prog 209 ≤ 1024 := of_decide_eq_true (by kernel_rfl)
theorem bld209 (ps : List (Nat × V)) : build Tryd.prog 209 ps = (fillV (fun i => [(0, 0), (0, 0), (0, 1)][i]?) [.int .u64 0] ps).map .agg := by kernel_rfl
theorem sz210 : sizeT Tryd.prog 210 = 1 := by kernel_rfl
theorem agg210 : aggT Tryd.prog 210 = some false := by kernel_rfl
theorem zero210 : zeroV Tryd.prog 210 = some (.nilf) := by kernel_rfl
theorem by210 : bytesT Tryd.prog 210 ≤ 1024 := of_decide_eq_true (by kernel_rfl)
theorem sz211 : sizeT Tryd.prog 211 = 1 := by kernel_rfl
theorem agg211 : aggT Tryd.prog 211 = some false := by kernel_rfl
theorem zero211 : zeroV Tryd.prog 211 = some (.nilp) := by kernel_rfl
theorem by211 : bytesT Tryd.prog 211 ≤ 1024 := of_decide_eq_true (by kernel_rfl)
theorem sz213 : sizeT Tryd.prog 213 = 1 := by kernel_rfl
theorem agg213 : aggT Tryd.prog 213 = some false := by kernel_rfl
theorem zero213 : zeroV Tryd.prog 213 = some (.nilf) := by kernel_rfl
theorem by213 : bytesT Tryd.prog 213 ≤ 1024 := of_decide_eq_true (by kernel_rfl)
theorem sz214 : sizeT Tryd.prog 214 = 1 := by kernel_rfl
theorem agg214 : aggT Tryd.prog 214 = some false := by kernel_rfl
theorem zero214 : zeroV Tryd.prog 214 = some (.int .u64 0) := by kernel_rfl
theorem by214 : bytesT Tryd.prog 214 ≤ 1024 := of_decide_eq_true (by kernel_rfl)
theorem sz215 : sizeT Tryd.prog 215 = 2 := by kernel_rfl
theorem agg215 : aggT Tryd.prog 215 = some true := by kernel_rfl
theorem zero215 : zeroV Tryd.prog 215 = some (.agg [.bool false, .bool false]) := by kernel_rfl
theorem by215 : bytesT Tryd.prog 215 ≤ 1024 := of_decide_eq_true (by kernel_rfl)
theorem bld215 (ps : List (Nat × V)) : build Tryd.prog 215 ps = (fillV (fun i => some (i * 1, 1)) [.bool false, .bool false] ps).map .agg := by kernel_rfl
theorem sz216 : sizeT Tryd.prog 216 = 12 := by kernel_rfl
theorem agg216 : aggT Tryd.prog 216 = some true := by kernel_rfl
theorem zero216 : zeroV Tryd.prog 216 = some (.agg [.bool false, .bool false, .bool false, .bool false, .bool false, .bool false, .bool false, .bool false, .bool false, .bool false, .bool false, .bool false]) := by kernel_rfl
theorem by216 : bytesT Tryd.prog 216 ≤ 1024 := of_decide_eq_true (by kernel_rfl)
theorem bld216 (ps : List (Nat × V)) : build Tryd.prog 216 ps = (fillV (fun i => some (i * 2, 2)) [.bool false, .bool false, .bool false, .bool false, .bool false, .bool false, .bool false, .bool false, .bool false, .bool false, .bool false, .bool false] ps).map .agg := by kernel_rfl
theorem sz217 : sizeT Tryd.prog 217 = 1 := by kernel_rfl
theorem agg217 : aggT Tryd.prog 217 = some false := by kernel_rfl
theorem zero217 : zeroV Tryd.prog 217 = some (.nilf) := by kernel_rfl
theorem by217 : bytesT Tryd.prog 217 ≤ 1024 := of_decide_eq_true (by kernel_rfl)
theorem sz218 : sizeT Tryd.prog 218 = 1 := by kernel_rfl
theorem agg218 : aggT Tryd.prog 218 = some false := by kernel_rfl
theorem zero218 : zeroV Tryd.prog 218 = some (.nilf) := by kernel_rfl
theorem by218 : bytesT Tryd.prog 218 ≤ 1024 := of_decide_eq_true (by kernel_rfl)
theorem sz219 : sizeT Tryd.prog 219 = 1 := by kernel_rfl
theorem agg219 : aggT Tryd.prog 219 = some false := by kernel_rfl
theorem zero219 : zeroV Tryd.prog 219 = some (.nilf) := by kernel_rfl
theorem by219 : bytesT Tryd.prog 219 ≤ 1024 := of_decide_eq_true (by kernel_rfl)
theorem sz220 : sizeT Tryd.prog 220 = 1 := by kernel_rfl
theorem agg220 : aggT Tryd.prog 220 = some false := by kernel_rfl
theorem zero220 : zeroV Tryd.prog 220 = some (.nilf) := by kernel_rfl
theorem by220 : bytesT Tryd.prog 220 ≤ 1024 := of_decide_eq_true (by kernel_rfl)
theorem sz222 : sizeT Tryd.prog 222 = 1 := by kernel_rfl
theorem agg222 : aggT Tryd.prog 222 = some false := by kernel_rfl
theorem zero222 : zeroV Tryd.prog 222 = some (.nilf) := by kernel_rfl
theorem by222 : bytesT Tryd.prog 222 ≤ 1024 := of_decide_eq_true (by kernel_rfl)
theorem sz223 : sizeT Tryd.prog 223 = 1 := by kernel_rfl
theorem agg223 : aggT Tryd.prog 223 = some false := by kernel_rfl
theorem zero223 : zeroV Tryd.prog 223 = some (.nilf) := by kernel_rfl
theorem by223 : bytesT Tryd.prog 223 ≤ 1024 := of_decide_eq_true (by kernel_rfl)
theorem sz224 : sizeT Tryd.prog 224 = 1 := by kernel_rfl
theorem agg224 : aggT Tryd.prog 224 = some false := by kernel_rfl
theorem zero224 : zeroV Tryd.prog 224 = some (.nilf) := by kernel_rfl
theorem by224 : bytesT Tryd.prog 224 ≤ 1024 := of_decide_eq_true (by kernel_rfl)
theorem sz225 : sizeT Tryd.prog 225 = 1 := by kernel_rfl
theorem agg225 : aggT Tryd.prog 225 = some false := by kernel_rfl
theorem zero225 : zeroV Tryd.prog 225 = some (.nilp) := by kernel_rfl
theorem by225 : bytesT Tryd.prog 225 ≤ 1024 := of_decide_eq_true (by kernel_rfl)
theorem sz227 : sizeT Tryd.prog 227 = 1 := by kernel_rfl
theorem agg227 : aggT Tryd.prog 227 = some false := by kernel_rfl
theorem zero227 : zeroV Tryd.prog 227 = some (.nilf) := by kernel_rfl
theorem by227 : bytesT Tryd.prog 227 ≤ 1024 := of_decide_eq_true (by kernel_rfl)
theorem sz228 : sizeT Tryd.prog 228 = 1 := by kernel_rfl
theorem agg228 : aggT Tryd.prog 228 = some false := by kernel_rfl
theorem zero228 : zeroV Tryd.prog 228 = some (.nilf) := by kernel_rfl
theorem by228 : bytesT Tryd.prog 228 ≤ 1024 := of_decide_eq_true (by kernel_rfl)
theorem sz229 : sizeT Tryd.prog 229 = 1 := by kernel_rfl
theorem agg229 : aggT Tryd.prog 229 = some false := by kernel_rfl
theorem zero229 : zeroV Tryd.prog 229 = some (.nils) := by kernel_rfl
theorem by229 : bytesT Tryd.prog 229 ≤ 1024 := of_decide_eq_true (by kernel_rfl)
theorem elem229 : elemT Tryd.prog 229 = 1 := by kernel_rfl
theorem sz230 : sizeT Tryd.prog 230 = 1 := by kernel_rfl
theorem agg230 : aggT Tryd.prog 230 = some false := by kernel_rfl
theorem zero230 : zeroV Tryd.prog 230 = some (.nilf) := by kernel_rfl
theorem by230 : bytesT Tryd.prog 230 ≤ 1024 := of_decide_eq_true (by kernel_rfl)
theorem sz231 : sizeT Tryd.prog 231 = 1 := by kernel_rfl
theorem agg231 : aggT Tryd.prog 231 = some false := by kernel_rfl
theorem zero231 : zeroV Tryd.prog 231 = some (.nilf) := by kernel_rfl
theorem by231 : bytesT Tryd.prog 231 ≤ 1024 := of_decide_eq_true (by kernel_rfl)
theorem sz232 : sizeT Tryd.prog 232 = 1 := by kernel_rfl
theorem agg232 : aggT Tryd.prog 232 = some false := by kernel_rfl
theorem zero232 : zeroV Tryd.prog 232 = some (.nilf) := by kernel_rfl
theorem by232 : bytesT Tryd.prog 232 ≤ 1024 := of_decide_eq_true (by kernel_rfl)
theorem sz233 : sizeT Tryd.prog 233 = 1 := by kernel_rfl
theorem agg233 : aggT Tryd.prog 233 = some false := by kernel_rfl
theorem zero233 : zeroV Tryd.prog 233 = some (.nilf) := by kernel_rfl
theorem by233 : bytesT Tryd.prog 233 ≤ 1024 := of_decide_eq_true (by kernel_rfl)
theorem sz234 : sizeT Tryd.prog 234 = 1 := by kernel_rfl
theorem agg234 : aggT Tryd.prog 234 = some false := by kernel_rfl
theorem zero234 : zeroV Tryd.prog 234 = some (.nilf) := by kernel_rfl
theorem by234 : bytesT Tryd.prog 234 ≤ 1024 := of_decide_eq_true (by kernel_rfl)
theorem sz235 : sizeT Tryd.prog 235 = 1 := by kernel_rfl
theorem agg235 : aggT Tryd.prog 235 = some false := by kernel_rfl
theorem zero235 : zeroV Tryd.prog 235 = some (.nilp) := by kernel_rfl
theorem by235 : bytesT Tryd.prog 235 ≤ 1024 := of_decide_eq_true (by kernel_rfl)
theorem sz236 : sizeT Tryd.prog 236 = 1 := by kernel_rfl
theorem agg236 : aggT Tryd.prog 236 = some false := by kernel_rfl
theorem zero236 : zeroV Tryd.prog 236 = some (.nilf) := by kernel_rfl
theorem by236 : bytesT Tryd.prog 236 ≤ 1024 := of_decide_eq_true (by kernel_rfl)
theorem sz237 : sizeT Tryd.prog 237 = 1 := by kernel_rfl
theorem agg237 : aggT Tryd.prog 237 = some false := by kernel_rfl
theorem zero237 : zeroV Tryd.prog 237 = some (.nilf) := by kernel_rfl
theorem by237 : bytesT Tryd.prog 237 ≤ 1024 := of_decide_eq_true (by kernel_rfl)
theorem sz238 : sizeT Tryd.prog 238 = 1 := by kernel_rfl
theorem agg238 : aggT Tryd.prog 238 = some false := by kernel_rfl
theorem zero238 : zeroV Tryd.prog 238 = some (.nilf) := by kernel_rfl
theorem by238 : bytesT Tryd.prog 238 ≤ 1024 := of_decide_eq_true (by kernel_rfl)
theorem sz239 : sizeT Tryd.prog 239 = 7 := by kernel_rfl
theorem agg239 : aggT Tryd.prog 239 = some true := by kernel_rfl
theorem zero239 : zeroV Tryd.prog 239 = some (.agg [.nilp, .nilf, .int .u64 0, .int .u64 0, .bool false, .int .u64 0, .int .i64 0]) := by kernel_rfl
theorem by239 : bytesT Tryd.prog 239 ≤ 1024 := of_decide_eq_true (by kernel_rfl)
theorem bld239 (ps : List (Nat × V)) : build Tryd.prog 239 ps = (fillV (fun i => [(0, 1), (1, 1), (2, 1), (3, 1), (4, 1), (5, 1), (6, 1)][i]?) [.nilp, .nilf, .int .u64 0, .int .u64 0, .bool false, .int .u64 0, .int .i64 0] ps).map .agg := by kernel_rfl
theorem sz240 : sizeT Tryd.prog 240 = 7 := by kernel_rfl
theorem agg240 : aggT Tryd.prog 240 = some true := by kernel_rfl
theorem zero240 : zeroV Tryd.prog 240 = some (.agg [.nilp, .nilf, .int .u64 0, .int .u64 0, .bool false, .int .u64 0, .int .i64 0]) := by kernel_rfl
theorem by240 : bytesT Tryd.prog 240 ≤ 1024 := of_decide_eq_true (by kernel_rfl)
theorem bld240 (ps : List (Nat × V)) : build Tryd.prog 240 ps = (fillV (fun i => [(0, 1), (1, 1), (2, 1), (3, 1), (4, 1), (5, 1), (6, 1)][i]?) [.nilp, .nilf, .int .u64 0, .int .u64 0, .bool false, .int .u64 0, .int .i64 0] ps).map .agg := by kernel_rfl
theorem sz241 : sizeT Tryd.prog 241 = 1 := by kernel_rfl
theorem agg241 : aggT Tryd.prog 241 = some false := by kernel_rfl
theorem zero241 : zeroV Tryd.prog 241 = some (.nilf) := by kernel_rfl
theorem by241 : bytesT Tryd.prog 241 ≤ 1024 := of_decide_eq_true (by kernel_rfl)
theorem sz242 : sizeT Tryd.prog 242 = 1 := by kernel_rfl
theorem agg242 : aggT Tryd.prog 242 = some false := by kernel_rfl
theorem zero242 : zeroV Tryd.prog 242 = some (.nili) := by kernel_rfl
theorem by242 : bytesT Tryd.prog 242 ≤ 1024 := of_decide_eq_true (by kernel_rfl)
theorem sz243 : sizeT Tryd.prog 243 = 1 := by kernel_rfl
theorem agg243 : aggT Tryd.prog 243 = some false := by kernel_rfl
theorem zero243 : zeroV Tryd.prog 243 = some (.nili) := by kernel_rfl
theorem by243 : bytesT Tryd.prog 243 ≤ 1024 := of_decide_eq_true (by kernel_rfl)
theorem sz244 : sizeT Tryd.prog 244 = 3 := by kernel_rfl
theorem agg244 : aggT Tryd.prog 244 = some true := by kernel_rfl
theorem zero244 : zeroV Tryd.prog 244 = some (.agg [.int .i64 0, .int .i64 0, .int .i64 0]) := by kernel_rfl
theorem by244 : bytesT Tryd.prog 244 ≤ 1024 := of_decide_eq_true (by kernel_rfl)
theorem bld244 (ps : List (Nat × V)) : build Tryd.prog 244 ps = (fillV (fun i => some (i * 1, 1)) [.int .i64 0, .int .i64 0, .int .i64 0] ps).map .agg := by kernel_rfl
theorem sz245 : sizeT Tryd.prog 245 = 1 := by kernel_rfl
theorem agg245 : aggT Tryd.prog 245 = some false := by kernel_rfl
theorem zero245 : zeroV Tryd.prog 245 = some (.nilp) := by kernel_rfl
theorem by245 : bytesT Tryd.prog 245 ≤ 1024 := of_decide_eq_true (by kernel_rfl)
theorem sz246 : sizeT Tryd.prog 246 = 3 := by kernel_rfl
theorem agg246 : aggT Tryd.prog 246 = some true := by kernel_rfl
theorem zero246 : zeroV Tryd.prog 246 = some (.agg [.nilp, .nilp, .nilp]) := by kernel_rfl
theorem by246 : bytesT Tryd.prog 246 ≤ 1024 := of_decide_eq_true (by kernel_rfl)
theorem bld246 (ps : List (Nat × V)) : build Tryd.prog 246 ps = (fillV (fun i => some (i * 1, 1)) [.nilp, .nilp, .nilp] ps).map .agg := by kernel_rfl
theorem sz247 : sizeT Tryd.prog 247 = 1 := by kernel_rfl
theorem agg247 : aggT Tryd.prog 247 = some false := by kernel_rfl
theorem zero247 : zeroV Tryd.prog 247 = some (.nilf) := by kernel_rfl
theorem by247 : bytesT Tryd.prog 247 ≤ 1024 := of_decide_eq_true (by kernel_rfl)
theorem sz248 : sizeT Tryd.prog 248 = 1 := by kernel_rfl
theorem agg248 : aggT Tryd.prog 248 = some false := by kernel_rfl
theorem zero248 : zeroV Tryd.prog 248 = some (.int .i64 0) := by kernel_rfl
theorem by248 : bytesT Tryd.prog 248 ≤ 1024 := of_decide_eq_true (by kernel_rfl)
theorem sz250 : sizeT Tryd.prog 250 = 1 := by kernel_rfl
theorem agg250 : aggT Tryd.prog 250 = some false := by kernel_rfl
theorem zero250 : zeroV Tryd.prog 250 = some (.nilf) := by kernel_rfl
theorem by250 : bytesT Tryd.prog 250 ≤ 1024 := of_decide_eq_true (by kernel_rfl)
theorem sz251 : sizeT Tryd.prog 251 = 1 := by kernel_rfl
theorem agg251 : aggT Tryd.prog 251 = some false := by kernel_rfl
theorem zero251 : zeroV Tryd.prog 251 = some (.nilf) := by kernel_rfl
theorem by251 : bytesT Tryd.prog 251 ≤ 1024 := of_decide_eq_true (by kernel_rfl)
theorem sz252 : sizeT Tryd.prog 252 = 1 := by kernel_rfl
theorem agg252 : aggT Tryd.prog 252 = some false := by kernel_rfl
theorem zero252 : zeroV Tryd.prog 252 = some (.nilf) := by kernel_rfl
theorem by252 : bytesT Tryd.prog 252 ≤ 1024 := of_decide_eq_true (by kernel_rfl)
theorem sz254 : sizeT Tryd.prog 254 = 1 := by kernel_rfl
theorem agg254 : aggT Tryd.prog 254 = some false := by kernel_rfl
theorem zero254 : zeroV Tryd.prog 254 = some (.nilf) := by kernel_rfl
theorem by254 : bytesT Tryd.prog 254 ≤ 1024 := of_decide_eq_true (by kernel_rfl)
theorem sz255 : sizeT Tryd.prog 255 = 1 := by kernel_rfl
theorem agg255 : aggT Tryd.prog 255 = some false := by kernel_rfl
theorem zero255 : zeroV Tryd.prog 255 = some (.nilf) := by kernel_rfl
theorem by255 : bytesT Tryd.prog 255 ≤ 1024 := of_decide_eq_true (by kernel_rfl)
theorem sz256 : sizeT Tryd.prog 256 = 1 := by kernel_rfl
theorem agg256 : aggT Tryd.prog 256 = some false := by kernel_rfl
theorem zero256 : zeroV Tryd.prog 256 = some (.nilf) := by kernel_rfl
theorem by256 : bytesT Tryd.prog 256 ≤ 1024 := of_decide_eq_true (by kernel_rfl)
theorem sz257 : sizeT Tryd.prog 257 = 24 := by kernel_rfl
theorem agg257 : aggT Tryd.prog 257 = some true := by kernel_rfl
theorem zero257 : zeroV Tryd.prog 257 = some (.agg [.int .u8 0, .int .u8 0, .int .u8 0, .int .u8 0, .int .u8 0, .int .u8 0, .int .u8 0, .int .u8 0, .int .u8 0, .int .u8 0, .int .u8 0, .int .u8 0, .int .u8 0, .int .u8 0, .int .u8 0, .int .u8 0, .int .u8 0, .int .u8 0, .int .u8 0, .int .u8 0, .int .u8 0, .int .u8 0, .int .u8 0, .int .u8 0]) := by kernel_rfl
theorem by257 : bytesT Tryd.prog 257 ≤ 1024 := of_decide_eq_true (by kernel_rfl)
theorem bld257 (ps : List (Nat × V)) : build Tryd.prog 257 ps = (fillV (fun i => some (i * 1, 1)) [.int .u8 0, .int .u8 0, .int .u8 0, .int .u8 0, .int .u8 0, .int .u8 0, .int .u8 0, .int .u8 0, .int .u8 0, .int .u8 0, .int .u8 0, .int .u8 0, .int .u8 0, .int .u8 0, .int .u8 0, .int .u8 0, .int .u8 0, .int .u8 0, .int .u8 0, .int .u8 0, .int .u8 0, .int .u8 0, .int .u8 0, .int .u8 0] ps).map .agg := by kernel_rfl
theorem sz258 : sizeT Tryd.prog 258 = 1 := by kernel_rfl
theorem agg258 : aggT Tryd.prog 258 = some false := by kernel_rfl
theorem zero258 : zeroV Tryd.prog 258 = some (.nilf) := by kernel_rfl
theorem by258 : bytesT Tryd.prog 258 ≤ 1024 := of_decide_eq_true (by kernel_rfl)
theorem sz260 : sizeT Tryd.prog 260 = 1 := by kernel_rfl
theorem agg260 : aggT Tryd.prog 260 = some false := by kernel_rfl
theorem zero260 : zeroV Tryd.prog 260 = some (.nilf) := by kernel_rfl
theorem by260 : bytesT Tryd.prog 260 ≤ 1024 := of_decide_eq_true (by kernel_rfl)
theorem sz261 : sizeT Tryd.prog 261 = 1 := by kernel_rfl
theorem agg261 : aggT Tryd.prog 261 = some false := by kernel_rfl
theorem zero261 : zeroV Tryd.prog 261 = some (.nilf) := by kernel_rfl
theorem by261 : bytesT Tryd.prog 261 ≤ 1024 := of_decide_eq_true (by kernel_rfl)
theorem sz262 : sizeT Tryd.prog 262 = 1 := by kernel_rfl
theorem agg262 : aggT Tryd.prog 262 = some false := by kernel_rfl
theorem zero262 : zeroV Tryd.prog 262 = some (.nilf) := by kernel_rfl
theorem by262 : bytesT Tryd.prog 262 ≤ 1024 := of_decide_eq_true (by kernel_rfl)
theorem sz263 : sizeT Tryd.prog 263 = 1 := by kernel_rfl
theorem agg263 : aggT Tryd.prog 263 = some false := by kernel_rfl
theorem zero263 : zeroV Tryd.prog 263 = some (.nilf) := by kernel_rfl
theorem by263 : bytesT Tryd.prog 263 ≤ 1024 := of_decide_eq_true (by kernel_rfl)
theorem sz264 : sizeT Tryd.prog 264 = 1 := by kernel_rfl
theorem agg264 : aggT Tryd.prog 264 = some false := by kernel_rfl
theorem zero264 : zeroV Tryd.prog 264 = some (.nilf) := by kernel_rfl
theorem by264 : bytesT Tryd.prog 264 ≤ 1024 := of_decide_eq_true (by kernel_rfl)
theorem sz265 : sizeT Tryd.prog 265 = 1 := by kernel_rfl
theorem agg265 : aggT Tryd.prog 265 = some false := by kernel_rfl
theorem zero265 : zeroV Tryd.prog 265 = some (.nilf) := by kernel_rfl
theorem by265 : bytesT Tryd.prog 265 ≤ 1024 := of_decide_eq_true (by kernel_rfl)
theorem sz266 : sizeT Tryd.prog 266 = 1 := by kernel_rfl
theorem agg266 : aggT Tryd.prog 266 = some false := by kernel_rfl
theorem zero266 : zeroV Tryd.prog 266 = some (.nilf) := by kernel_rfl
theorem by266 : bytesT Tryd.prog 266 ≤ 1024 := of_decide_eq_true (by kernel_rfl)
theorem sz267 : sizeT Tryd.prog 267 = 1 := by kernel_rfl
theorem agg267 : aggT Tryd.prog 267 = some false := by kernel_rfl
theorem zero267 : zeroV Tryd.prog 267 = some (.int .u64 0) := by kernel_rfl
theorem by267 : bytesT Tryd.prog 267 ≤ 1024 := of_decide_eq_true (by kernel_rfl)
theorem sz268 : sizeT Tryd.prog 268 = 1 := by kernel_rfl
theorem agg268 : aggT Tryd.prog 268 = some false := by kernel_rfl
theorem zero268 : zeroV Tryd.prog 268 = some (.nilf) := by kernel_rfl
theorem by268 : bytesT Tryd.prog 268 ≤ 1024 := of_decide_eq_true (by kernel_rfl)
theorem sz269 : sizeT Tryd.prog 269 = 1 := by kernel_rfl
theorem agg269 : aggT Tryd.prog 269 = some false := by kernel_rfl
theorem zero269 : zeroV Tryd.prog 269 = some (.nilf) := by kernel_rfl
theorem by269 : bytesT Tryd.prog 269 ≤ 1024 := of_decide_eq_true (by kernel_rfl)
theorem sz270 : sizeT Tryd.prog 270 = 1 := by kernel_rfl
theorem agg270 : aggT Tryd.prog 270 = some false := by kernel_rfl
theorem zero270 : zeroV Tryd.prog 270 = some (.nilf) := by kernel_rfl
theorem by270 : bytesT Tryd.prog 270 ≤ 1024 := of_decide_eq_true (by kernel_rfl)
theorem sz271 : sizeT Tryd.prog 271 = 1 := by kernel_rfl
theorem agg271 : aggT Tryd.prog 271 = some false := by kernel_rfl
theorem zero271 : zeroV Tryd.prog 271 = some (.nilf) := by kernel_rfl
theorem by271 : bytesT Tryd.prog 271 ≤ 1024 := of_decide_eq_true (by kernel_rfl)
theorem sz272 : sizeT Tryd.prog 272 = 1 := by kernel_rfl
theorem agg272 : aggT Tryd.prog 272 = some false := by kernel_rfl
theorem zero272 : zeroV Tryd.prog 272 = some (.nilf) := by kernel_rfl
theorem by272 : bytesT Tryd.prog 272 ≤ 1024 := of_decide_eq_true (by kernel_rfl)
theorem sz273 : sizeT Tryd.prog 273 = 20 := by kernel_rfl
theorem agg273 : aggT Tryd.prog 273 = some true := by kernel_rfl
theorem zero273 : zeroV Tryd.prog 273 = some (.agg [.int .u64 0, .int .u64 0, .int .u64 0, .int .u64 0, .int .u64 0, .int .u64 0, .int .u64 0, .int .u64 0, .int .u64 0, .int .u64 0, .int .u64 0, .int .u64 0, .int .u64 0, .int .u64 0, .int .u64 0, .int .u64 0, .int .u64 0, .int .u64 0, .int .u64 0, .int .u64 0]) := by kernel_rfl
theorem by273 : bytesT Tryd.prog 273 ≤ 1024 := of_decide_eq_true (by kernel_rfl)
theorem bld273 (ps : List (Nat × V)) : build Tryd.prog 273 ps = (fillV (fun i => some (i * 1, 1)) [.int .u64 0, .int .u64 0, .int .u64 0, .int .u64 0, .int .u64 0, .int .u64 0, .int .u64 0, .int .u64 0, .int .u64 0, .int .u64 0, .int .u64 0, .int .u64 0, .int .u64 0, .int .u64 0, .int .u64 0, .int .u64 0, .int .u64 0, .int .u64 0, .int .u64 0, .int .u64 0] ps).map .agg := by kernel_rfl
theorem sz275 : sizeT Tryd.prog 275 = 1 := by kernel_rfl
theorem agg275 : aggT Tryd.prog 275 = some false := by kernel_rfl
theorem zero275 : zeroV Tryd.prog 275 = some (.nilf) := by kernel_rfl
theorem by275 : bytesT Tryd.prog 275 ≤ 1024 := of_decide_eq_true (by kernel_rfl)
theorem sz276 : sizeT Tryd.prog 276 = 1 := by kernel_rfl
theorem agg276 : aggT Tryd.prog 276 = some false := by kernel_rfl
theorem zero276 : zeroV Tryd.prog 276 = some (.nilp) := by kernel_rfl
theorem by276 : bytesT Tryd.prog 276 ≤ 1024 := of_decide_eq_true (by kernel_rfl)
theorem sz278 : sizeT Tryd.prog 278 = 1 := by kernel_rfl
theorem agg278 : aggT Tryd.prog 278 = some false := by kernel_rfl
theorem zero278 : zeroV Tryd.prog 278 = some (.nilf) := by kernel_rfl
theorem by278 : bytesT Tryd.prog 278 ≤ 1024 := of_decide_eq_true (by kernel_rfl)
theorem sz279 : sizeT Tryd.prog 279 = 32 := by kernel_rfl
theorem agg279 : aggT Tryd.prog 279 = some true := by kernel_rfl
theorem zero279 : zeroV Tryd.prog 279 = some (.agg [.int .u8 0, .int .u8 0, .int .u8 0, .int .u8 0, .int .u8 0, .int .u8 0, .int .u8 0, .int .u8 0, .int .u8 0, .int .u8 0, .int .u8 0, .int .u8 0, .int .u8 0, .int .u8 0, .int .u8 0, .int .u8 0, .int .u8 0, .int .u8 0, .int .u8 0, .int .u8 0, .int .u8 0, .int .u8 0, .int .u8 0, .int .u8 0, .int .u8 0, .int .u8 0, .int .u8 0, .int .u8 0, .int .u8 0, .int .u8 0, .int .u8 0, .int .u8 0]) := by kernel_rfl
theorem by279 : bytesT Tryd.prog 279 ≤ 1024 := of_decide_eq_true (by kernel_rfl)
theorem bld279 (ps : List (Nat × V)) : build Tryd.prog 279 ps = (fillV (fun i => some (i * 1, 1)) [.int .u8 0, .int .u8 0, .int .u8 0, .int .u8 0, .int .u8 0, .int .u8 0, .int .u8 0, .int .u8 0, .int .u8 0, .int .u8 0, .int .u8 0, .int .u8 0, .int .u8 0, .int .u8 0, .int .u8 0, .int .u8 0, .int .u8 0, .int .u8 0, .int .u8 0, .int .u8 0, .int .u8 0, .int .u8 0, .int .u8 0, .int .u8 0, .int .u8 0, .int .u8 0, .int .u8 0, .int .u8 0, .int .u8 0, .int .u8 0, .int .u8 0, .int .u8 0] ps).map .agg := by kernel_rfl
theorem sz281 : sizeT Tryd.prog 281 = 1 := by kernel_rfl
theorem agg281 : aggT Tryd.prog 281 = some false := by kernel_rfl
theorem zero281 : zeroV Tryd.prog 281 = some (.nilp) := by kernel_rfl
theorem by281 : bytesT Tryd.prog 281 ≤ 1024 := of_decide_eq_true (by kernel_rfl)
theorem sz282 : sizeT Tryd.prog 282 = 4 := by kernel_rfl
theorem agg282 : aggT Tryd.prog 282 = some true := by kernel_rfl
theorem zero282 : zeroV Tryd.prog 282 = some (.agg [.nilp, .nilp, .nilp, .str (bs [])]) := by kernel_rfl
theorem by282 : bytesT Tryd.prog 282 ≤ 1024 := of_decide_eq_true (by kernel_rfl)
theorem bld282 (ps : List (Nat × V)) : build Tryd.prog 282 ps = (fillV (fun i => [(0, 1), (1, 1), (2, 1), (3, 1)][i]?) [.nilp, .nilp, .nilp, .str (bs [])] ps).map .agg := by kernel_rfl
theorem sz283 : sizeT Tryd.prog 283 = 4 := by kernel_rfl
theorem agg283 : aggT Tryd.prog 283 = some true := by kernel_rfl
theorem zero283 : zeroV Tryd.prog 283 = some (.agg [.nilp, .nilp, .nilp, .str (bs [])]) := by kernel_rfl
theorem by283 : bytesT Tryd.prog 283 ≤ 1024 := of_decide_eq_true (by kernel_rfl)
theorem bld283 (ps : List (Nat × V)) : build Tryd.prog 283 ps = (fillV (fun i => [(0, 1), (1, 1), (2, 1), (3, 1)][i]?) [.nilp, .nilp, .nilp, .str (bs [])] ps).map .agg := by kernel_rfl
theorem sz287 : sizeT Tryd.prog 287 = 1 := by kernel_rfl
theorem agg287 : aggT Tryd.prog 287 = some false := by kernel_rfl
theorem zero287 : zeroV Tryd.prog 287 = some (.int .u8 0) := by kernel_rfl
theorem by287 : bytesT Tryd.prog 287 ≤ 1024 := of_decide_eq_true (by kernel_rfl)
theorem sz288 : sizeT Tryd.prog 288 = 1 := by kernel_rfl
theorem agg288 : aggT Tryd.prog 288 = some false := by kernel_rfl
theorem zero288 : zeroV Tryd.prog 288 = some (.int .u8 0) := by kernel_rfl
theorem by288 : bytesT Tryd.prog 288 ≤ 1024 := of_decide_eq_true (by kernel_rfl)
theorem sz289 : sizeT Tryd.prog 289 = 1 := by kernel_rfl
theorem agg289 : aggT Tryd.prog 289 = some false := by kernel_rfl
theorem zero289 : zeroV Tryd.prog 289 = some (.nilf) := by kernel_rfl
theorem by289 : bytesT Tryd.prog 289 ≤ 1024 := of_decide_eq_true (by kernel_rfl)
theorem sz290 : sizeT Tryd.prog 290 = 1 := by kernel_rfl
theorem agg290 : aggT Tryd.prog 290 = some false := by kernel_rfl
theorem zero290 : zeroV Tryd.prog 290 = some (.nilp) := by kernel_rfl
theorem by290 : bytesT Tryd.prog 290 ≤ 1024 := of_decide_eq_true (by kernel_rfl)
theorem sz291 : sizeT Tryd.prog 291 = 1 := by kernel_rfl
theorem agg291 : aggT Tryd.prog 291 = some false := by kernel_rfl
theorem zero291 : zeroV Tryd.prog 291 = some (.int .i32 0) := by kernel_rfl
theorem by291 : bytesT Tryd.prog 291 ≤ 1024 := of_decide_eq_true (by kernel_rfl)
theorem sz292 : sizeT Tryd.prog 292 = 1 := by kernel_rfl
theorem agg292 : aggT Tryd.prog 292 = some false := by kernel_rfl
theorem zero292 : zeroV Tryd.prog 292 = some (.int .i32 0) := by kernel_rfl
theorem by292 : bytesT Tryd.prog 292 ≤ 1024 := of_decide_eq_true (by kernel_rfl)
theorem sz293 : sizeT Tryd.prog 293 = 11 := by kernel_rfl
theorem agg293 : aggT Tryd.prog 293 = some true := by kernel_rfl
theorem zero293 : zeroV Tryd.prog 293 = some (.agg [.int .u64 0, .int .u64 0, .int .u32 0, .int .u8 0, .int .u8 0, .int .u8 0, .int .u8 0, .nilf, .nilp, .int .i32 0, .int .i32 0]) := by kernel_rfl
theorem by293 : bytesT Tryd.prog 293 ≤ 1024 := of_decide_eq_true (by kernel_rfl)
theorem bld293 (ps : List (Nat × V)) : build Tryd.prog 293 ps = (fillV (fun i => [(0, 1), (1, 1), (2, 1), (3, 1), (4, 1), (5, 1), (6, 1), (7, 1), (8, 1), (9, 1), (10, 1)][i]?) [.int .u64 0, .int .u64 0, .int .u32 0, .int .u8 0, .int .u8 0, .int .u8 0, .int .u8 0, .nilf, .nilp, .int .i32 0, .int .i32 0] ps).map .agg := by kernel_rfl
theorem sz294 : sizeT Tryd.prog 294 = 11 := by kernel_rfl
theorem agg294 : aggT Tryd.prog 294 = some true := by kernel_rfl
theorem zero294 : zeroV Tryd.prog 294 = some (.agg [.int .u64 0, .int .u64 0, .int .u32 0, .int .u8 0, .int .u8 0, .int .u8 0, .int .u8 0, .nilf, .nilp, .int .i32 0, .int .i32 0]) := by kernel_rfl
theorem by294 : bytesT Tryd.prog 294 ≤ 1024 := of_decide_eq_true (by kernel_rfl)
theorem bld294 (ps : List (Nat × V)) : build Tryd.prog 294 ps = (fillV (fun i => [(0, 1), (1, 1), (2, 1), (3, 1), (4, 1), (5, 1), (6, 1), (7, 1), (8, 1), (9, 1), (10, 1)][i]?) [.int .u64 0, .int .u64 0, .int .u32 0, .int .u8 0, .int .u8 0, .int .u8 0, .int .u8 0, .nilf, .nilp, .int .i32 0, .int .i32 0] ps).map .agg := by kernel_rfl
theorem sz295 : sizeT Tryd.prog 295 = 1 := by kernel_rfl
theorem agg295 : aggT Tryd.prog 295 = some false := by kernel_rfl
theorem zero295 : zeroV Tryd.prog 295 = some (.nilf) := by kernel_rfl
theorem by295 : bytesT Tryd.prog 295 ≤ 1024 := of_decide_eq_true (by kernel_rfl)
theorem el1 : elOk Tryd.prog 1 = true := by kernel_rfl
theorem el2 : elOk Tryd.prog 2 = true := by kernel_rfl
theorem el3 : elOk Tryd.prog 3 = true := by kernel_rfl
theorem el4 : elOk Tryd.prog 4 = true := by kernel_rfl
theorem el5 : elOk Tryd.prog 5 = true := by kernel_rfl
theorem el6 : elOk Tryd.prog 6 = true := by kernel_rfl
theorem el7 : elOk Tryd.prog 7 = true := by kernel_rfl
theorem el8 : elOk Tryd.prog 8 = true := by kernel_rfl
theorem el9 : elOk Tryd.prog 9 = true := by kernel_rfl
theorem el10 : elOk Tryd.prog 10 = true := by kernel_rfl
theorem el11 : elOk Tryd.prog 11 = true := by kernel_rfl
theorem el12 : elOk Tryd.prog 12 = true := by kernel_rfl
theorem el13 : elOk Tryd.prog 13 = true := by kernel_rfl
theorem el14 : elOk Tryd.prog 14 = true := by kernel_rfl
theorem el15 : elOk Tryd.prog 15 = true := by kernel_rfl
theorem el16 : elOk Tryd.prog 16 = true := by kernel_rfl
theorem el17 : elOk Tryd.prog 17 = true := by kernel_rfl
theorem el18 : elOk Tryd.prog 18 = true := by kernel_rfl
theorem el19 : elOk Tryd.prog 19 = true := by kernel_rfl
theorem el20 : elOk Tryd.prog 20 = true := by kernel_rfl
theorem el21 : elOk Tryd.prog 21 = true := by kernel_rfl
theorem el22 : elOk Tryd.prog 22 = true := by kernel_rfl
theorem el23 : elOk Tryd.prog 23 = true := by kernel_rfl
theorem el24 : elOk Tryd.prog 24 = true := by kernel_rfl
theorem el25 : elOk Tryd.prog 25 = true := by kernel_rfl
theorem el27 : elOk Tryd.prog 27 = true := by kernel_rfl
theorem el28 : elOk Tryd.prog 28 = true := by kernel_rfl
theorem el29 : elOk Tryd.prog 29 = true := by kernel_rfl
theorem el30 : elOk Tryd.prog 30 = true := by kernel_rfl
theorem el31 : elOk Tryd.prog 31 = true := by kernel_rfl
theorem el33 : elOk Tryd.prog 33 = true := by kernel_rfl
theorem el34 : elOk Tryd.prog 34 = true := by kernel_rfl
theorem el35 : elOk Tryd.prog 35 = true := by kernel_rfl
theorem el36 : elOk Tryd.prog 36 = true := by kernel_rfl
theorem el37 : elOk Tryd.prog 37 = true := by kernel_rfl
theorem el38 : elOk Tryd.prog 38 = true := by kernel_rfl
theorem el39 : elOk Tryd.prog 39 = true := by kernel_rfl
theorem el41 : elOk Tryd.prog 41 = true := by kernel_rfl
theorem el42 : elOk Tryd.prog 42 = true := by kernel_rfl
theorem el43 : elOk Tryd.prog 43 = true := by kernel_rfl
theorem el44 : elOk Tryd.prog 44 = true := by kernel_rfl
theorem el45 : elOk Tryd.prog 45 = true := by kernel_rfl
theorem el46 : elOk Tryd.prog 46 = true := by kernel_rfl
theorem el48 : elOk Tryd.prog 48 = true := by kernel_rfl
theorem el49 : elOk Tryd.prog 49 = true := by kernel_rfl
theorem el50 : elOk Tryd.prog 50 = true := by kernel_rfl
theorem el52 : elOk Tryd.prog 52 = true := by kernel_rfl
theorem el54 : elOk Tryd.prog 54 = true := by kernel_rfl
theorem el55 : elOk Tryd.prog 55 = true := by kernel_rfl
theorem el57 : elOk Tryd.prog 57 = true := by kernel_rfl
theorem el58 : elOk Tryd.prog 58 = true := by kernel_rfl
theorem el59 : elOk Tryd.prog 59 = true := by kernel_rfl
theorem el60 : elOk Tryd.prog 60 = true := by kernel_rfl
theorem el62 : elOk Tryd.prog 62 = true := by kernel_rfl
theorem el63 : elOk Tryd.prog 63 = true := by kernel_rfl
theorem el64 : elOk Tryd.prog 64 = true := by kernel_rfl
theorem el65 : elOk Tryd.prog 65 = true := by kernel_rfl
theorem el66 : elOk Tryd.prog 66 = true := by kernel_rfl
theorem el67 : elOk Tryd.prog 67 = true := by kernel_rfl
theorem el69 : elOk Tryd.prog 69 = true := by kernel_rfl
theorem el70 : elOk Tryd.prog 70 = true := by kernel_rfl
theorem el71 : elOk Tryd.prog 71 = true := by kernel_rfl
theorem el72 : elOk Tryd.prog 72 = true := by kernel_rfl
theorem el73 : elOk Tryd.prog 73 = true := by kernel_rfl
theorem el74 : elOk Tryd.prog 74 = true := by kernel_rfl
theorem el76 : elOk Tryd.prog 76 = true := by kernel_rfl
theorem el77 : elOk Tryd.prog 77 = true := by kernel_rfl
theorem el78 : elOk Tryd.prog 78 = true := by kernel_rfl
theorem el79 : elOk Tryd.prog 79 = true := by kernel_rfl
theorem el80 : elOk Tryd.prog 80 = true := by kernel_rfl
theorem el82 : elOk Tryd.prog 82 = true := by kernel_rfl
theorem el83 : elOk Tryd.prog 83 = true := by kernel_rfl
theorem el84 : elOk Tryd.prog 84 = true := by kernel_rfl
theorem el85 : elOk Tryd.prog 85 = true := by kernel_rfl
theorem el86 : elOk Tryd.prog 86 = true := by kernel_rfl
theorem el87 : elOk Tryd.prog 87 = true := by kernel_rfl
theorem el88 : elOk Tryd.prog 88 = true := by kernel_rfl
theorem el89 : elOk Tryd.prog 89 = true := by kernel_rfl
theorem el90 : elOk Tryd.prog 90 = true := by kernel_rfl
theorem el91 : elOk Tryd.prog 91 = true := by kernel_rfl
theorem el92 : elOk Tryd.prog 92 = true := by kernel_rfl
theorem el93 : elOk Tryd.prog 93 = true := by kernel_rfl
theorem el95 : elOk Tryd.prog 95 = true := by kernel_rfl
theorem el96 : elOk Tryd.prog 96 = true := by kernel_rfl
theorem el97 : elOk Tryd.prog 97 = true := by kernel_rfl
theorem el98 : elOk Tryd.prog 98 = true := by kernel_rfl
theorem el99 : elOk Tryd.prog 99 = true := by kernel_rfl
theorem el100 : elOk Tryd.prog 100 = true := by kernel_rfl
theorem el101 : elOk Tryd.prog 101 = true := by kernel_rfl
theorem el102 : elOk Tryd.prog 102 = true := by kernel_rfl
theorem el103 : elOk Tryd.prog 103 = true := by kernel_rfl
theorem el105 : elOk Tryd.prog 105 = true := by kernel_rfl
theorem el106 : elOk Tryd.prog 106 = true := by kernel_rfl
theorem el108 : elOk Tryd.prog 108 = true := by kernel_rfl
theorem el109 : elOk Tryd.prog 109 = true := by kernel_rfl
theorem el110 : elOk Tryd.prog 110 = true := by kernel_rfl
theorem el112 : elOk Tryd.prog 112 = true := by kernel_rfl
theorem el114 : elOk Tryd.prog 114 = true := by kernel_rfl
theorem el115 : elOk Tryd.prog 115 = true := by kernel_rfl
theorem el116 : elOk Tryd.prog 116 = true := by kernel_rfl
theorem el117 : elOk Tryd.prog 117 = true := by kernel_rfl
theorem el118 : elOk Tryd.prog 118 = true := by kernel_rfl
theorem el119 : elOk Tryd.prog 119 = true := by kernel_rfl
theorem el120 : elOk Tryd.prog 120 = true := by kernel_rfl
theorem el121 : elOk Tryd.prog 121 = true := by kernel_rfl
theorem el122 : elOk Tryd.prog 122 = true := by kernel_rfl
theorem el123 : elOk Tryd.prog 123 = true := by kernel_rfl
theorem el124 : elOk Tryd.prog 124 = true := by kernel_rfl
theorem el125 : elOk Tryd.prog 125 = true := by kernel_rfl
theorem el126 : elOk Tryd.prog 126 = true := by kernel_rfl
theorem el127 : elOk Tryd.prog 127 = true := by kernel_rfl
theorem el128 : elOk Tryd.prog 128 = true := by kernel_rfl
theorem el130 : elOk Tryd.prog 130 = true := by kernel_rfl
theorem el131 : elOk Tryd.prog 131 = true := by kernel_rfl
theorem el132 : elOk Tryd.prog 132 = true := by kernel_rfl
theorem el133 : elOk Tryd.prog 133 = true := by kernel_rfl
theorem el135 : elOk Tryd.prog 135 = true := by kernel_rfl
theorem el136 : elOk Tryd.prog 136 = true := by kernel_rfl
theorem el137 : elOk Tryd.prog 137 = true := by kernel_rfl
theorem el140 : elOk Tryd.prog 140 = true := by kernel_rfl
theorem el141 : elOk Tryd.prog 141 = true := by kernel_rfl
theorem el142 : elOk Tryd.prog 142 = true := by kernel_rfl
theorem el143 : elOk Tryd.prog 143 = true := by kernel_rfl
theorem el144 : elOk Tryd.prog 144 = true := by kernel_rfl
theorem el145 : elOk Tryd.prog 145 = true := by kernel_rfl
theorem el146 : elOk Tryd.prog 146 = true := by kernel_rfl
theorem el147 : elOk Tryd.prog 147 = true := by kernel_rfl
theorem el148 : elOk Tryd.prog 148 = true := by kernel_rfl
theorem el149 : elOk Tryd.prog 149 = true := by kernel_rfl
theorem el150 : elOk Tryd.prog 150 = true := by kernel_rfl
theorem el151 : elOk Tryd.prog 151 = true := by kernel_rfl
theorem el152 : elOk Tryd.prog 152 = true := by kernel_rfl
theorem el154 : elOk Tryd.prog 154 = true := by kernel_rfl
theorem el155 : elOk Tryd.prog 155 = true := by kernel_rfl
theorem el156 : elOk Tryd.prog 156 = true := by kernel_rfl
theorem el157 : elOk Tryd.prog 157 = true := by kernel_rfl
theorem el158 : elOk Tryd.prog 158 = true := by kernel_rfl
theorem el159 : elOk Tryd.prog 159 = true := by kernel_rfl
theorem el160 : elOk Tryd.prog 160 = true := by kernel_rfl
theorem el162 : elOk Tryd.prog 162 = true := by kernel_rfl
theorem el163 : elOk Tryd.prog 163 = true := by kernel_rfl
theorem el164 : elOk Tryd.prog 164 = true := by kernel_rfl
theorem el165 : elOk Tryd.prog 165 = true := by kernel_rfl
theorem el167 : elOk Tryd.prog 167 = true := by kernel_rfl
theorem el168 : elOk Tryd.prog 168 = true := by kernel_rfl
theorem el169 : elOk Tryd.prog 169 = true := by kernel_rfl
theorem el170 : elOk Tryd.prog 170 = true := by kernel_rfl
theorem el171 : elOk Tryd.prog 171 = true := by kernel_rfl
theorem el172 : elOk Tryd.prog 172 = true := by kernel_rfl
theorem el173 : elOk Tryd.prog 173 = true := by kernel_rfl
theorem el174 : elOk Tryd.prog 174 = true := by kernel_rfl
theorem el175 : elOk Tryd.prog 175 = true := by kernel_rfl
theorem el176 : elOk Tryd.prog 176 = true := by kernel_rfl
theorem el177 : elOk Tryd.prog 177 = true := by kernel_rfl
theorem el178 : elOk Tryd.prog 178 = true := by kernel_rfl
theorem el179 : elOk Tryd.prog 179 = true := by kernel_rfl
theorem el180 : elOk Tryd.prog 180 = true := by kernel_rfl
theorem el182 : elOk Tryd.prog 182 = true := by kernel_rfl
theorem el183 : elOk Tryd.prog 183 = true := by kernel_rfl
theorem el184 : elOk Tryd.prog 184 = true := by kernel_rfl
theorem el185 : elOk Tryd.prog 185 = true := by kernel_rfl
theorem el186 : elOk Tryd.prog 186 = true := by kernel_rfl
theorem el187 : elOk Tryd.prog 187 = true := by kernel_rfl
theorem el188 : elOk Tryd.prog 188 = true := by kernel_rfl
theorem el189 : elOk Tryd.prog 189 = true := by kernel_rfl
theorem el190 : elOk Tryd.prog 190 = true := by kernel_rfl
theorem el191 : elOk Tryd.prog 191 = true := by kernel_rfl
theorem el192 : elOk Tryd.prog 192 = true := by kernel_rfl
theorem el193 : elOk Tryd.prog 193 = true := by kernel_rfl
theorem el194 : elOk Tryd.prog 194 = true := by kernel_rfl
theorem el195 : elOk Tryd.prog 195 = true := by kernel_rfl
theorem el196 : elOk Tryd.prog 196 = true := by kernel_rfl
theorem el197 : elOk Tryd.prog 197 = true := by kernel_rfl
theorem el198 : elOk Tryd.prog 198 = true := by kernel_rfl
theorem el199 : elOk Tryd.prog 199 = true := by kernel_rfl
theorem el200 : elOk Tryd.prog 200 = true := by kernel_rfl
theorem el201 : elOk Tryd.prog 201 = true := by kernel_rfl
theorem el202 : elOk Tryd.prog 202 = true := by kernel_rfl
theorem el203 : elOk Tryd.prog 203 = true := by kernel_rfl
theorem el204 : elOk Tryd.prog 204 = true := by kernel_rfl
theorem el205 : elOk Tryd.prog 205 = true := by kernel_rfl
theorem el208 : elOk Tryd.prog 208 = true := by kernel_rfl
theorem el209 : elOk Tryd.prog 209 = true := by kernel_rfl
theorem el210 : elOk Tryd.prog 210 = true := by kernel_rfl
theorem el211 : elOk Tryd.prog 211 = true := by kernel_rfl
theorem el213 : elOk Tryd.prog 213 = true := by kernel_rfl
theorem el214 : elOk Tryd.prog 214 = true := by kernel_rfl
theorem el215 : elOk Tryd.prog 215 = true := by kernel_rfl
theorem el216 : elOk Tryd.prog 216 = true := by kernel_rfl
theorem el217 : elOk Tryd.prog 217 = true := by kernel_rfl
theorem el218 : elOk Tryd.prog 218 = true := by kernel_rfl
theorem el219 : elOk Tryd.prog 219 = true := by kernel_rfl
theorem el220 : elOk Tryd.prog 220 = true := by kernel_rfl
theorem el222 : elOk Tryd.prog 222 = true := by kernel_rfl
theorem el223 : elOk Tryd.prog 223 = true := by kernel_rfl
theorem el224 : elOk Tryd.prog 224 = true := by kernel_rfl
theorem el225 : elOk Tryd.prog 225 = true := by kernel_rfl
theorem el227 : elOk Tryd.prog 227 = true := by kernel_rfl
theorem el228 : elOk Tryd.prog 228 = true := by kernel_rfl
theorem el229 : elOk Tryd.prog 229 = true := by kernel_rfl
theorem el230 : elOk Tryd.prog 230 = true := by kernel_rfl
theorem el231 : elOk Tryd.prog 231 = true := by kernel_rfl
theorem el232 : elOk Tryd.prog 232 = true := by kernel_rfl
theorem el233 : elOk Tryd.prog 233 = true := by kernel_rfl
theorem el234 : elOk Tryd.prog 234 = true := by kernel_rfl
theorem el235 : elOk Tryd.prog 235 = true := by kernel_rfl
theorem el236 : elOk Tryd.prog 236 = true := by kernel_rfl
theorem el237 : elOk Tryd.prog 237 = true := by kernel_rfl
theorem el238 : elOk Tryd.prog 238 = true := by kernel_rfl
theorem el239 : elOk Tryd.prog 239 = true := by kernel_rfl
theorem el240 : elOk Tryd.prog 240 = true := by kernel_rfl
theorem el241 : elOk Tryd.prog 241 = true := by kernel_rfl
theorem el242 : elOk Tryd.prog 242 = true := by kernel_rfl
theorem el243 : elOk Tryd.prog 243 = true := by kernel_rfl
theorem el244 : elOk Tryd.prog 244 = true := by kernel_rfl
theorem el245 : elOk Tryd.prog 245 = true := by kernel_rfl
theorem el246 : elOk Tryd.prog 246 = true := by kernel_rfl
theorem el247 : elOk Tryd.prog 247 = true := by kernel_rfl
theorem el248 : elOk Tryd.prog 248 = true := by kernel_rfl
theorem el250 : elOk Tryd.prog 250 = true := by kernel_rfl
theorem el251 : elOk Tryd.prog 251 = true := by kernel_rfl
theorem el252 : elOk Tryd.prog 252 = true := by kernel_rfl
theorem el254 : elOk Tryd.prog 254 = true := by kernel_rfl
theorem el255 : elOk Tryd.prog 255 = true := by kernel_rfl
theorem el256 : elOk Tryd.prog 256 = true := by kernel_rfl
theorem el257 : elOk Tryd.prog 257 = true := by kernel_rfl
theorem el258 : elOk Tryd.prog 258 = true := by kernel_rfl
theorem el260 : elOk Tryd.prog 260 = true := by kernel_rfl
theorem el261 : elOk Tryd.prog 261 = true := by kernel_rfl
theorem el262 : elOk Tryd.prog 262 = true := by kernel_rfl
theorem el263 : elOk Tryd.prog 263 = true := by kernel_rfl
theorem el264 : elOk Tryd.prog 264 = true := by kernel_rfl
theorem el265 : elOk Tryd.prog 265 = true := by kernel_rfl
theorem el266 : elOk Tryd.prog 266 = true := by kernel_rfl
theorem el267 : elOk Tryd.prog 267 = true := by kernel_rfl
theorem el268 : elOk Tryd.prog 268 = true := by kernel_rfl
theorem el269 : elOk Tryd.prog 269 = true := by kernel_rfl
theorem el270 : elOk Tryd.prog 270 = true := by kernel_rfl
theorem el271 : elOk Tryd.prog 271 = true := by kernel_rfl
theorem el272 : elOk Tryd.prog 272 = true := by kernel_rfl
theorem el273 : elOk Tryd.prog 273 = true := by kernel_rfl
theorem el275 : elOk Tryd.prog 275 = true := by kernel_rfl
theorem el276 : elOk Tryd.prog 276 = true := by kernel_rfl
theorem el278 : elOk Tryd.prog 278 = true := by kernel_rfl
theorem el279 : elOk Tryd.prog 279 = true := by kernel_rfl
theorem el281 : elOk Tryd.prog 281 = true := by kernel_rfl
theorem el282 : elOk Tryd.prog 282 = true := by kernel_rfl
theorem el283 : elOk Tryd.prog 283 = true := by kernel_rfl
theorem el287 : elOk Tryd.prog 287 = true := by kernel_rfl
theorem el288 : elOk Tryd.prog 288 = true := by kernel_rfl
theorem el289 : elOk Tryd.prog 289 = true := by kernel_rfl
theorem el290 : elOk Tryd.prog 290 = true := by kernel_rfl
theorem el291 : elOk Tryd.prog 291 = true := by kernel_rfl
theorem el292 : elOk Tryd.prog 292 = true := by kernel_rfl
theorem el293 : elOk Tryd.prog 293 = true := by kernel_rfl
theorem el294 : elOk Tryd.prog 294 = true := by kernel_rfl
theorem el295 : elOk Tryd.prog 295 = true := by kernel_rfl
def tys0 := (And.intro (And.intro (And.intro (And.intro (And.intro Tryd.underlying1 (And.intro sz1 agg1)) (And.intro zero1 (And.intro Tryd.underlying2 sz2))) (And.intro (And.intro agg2 (And.intro zero2 Tryd.underlying3)) (And.intro sz3 (And.intro agg3 zero3)))) (And.intro (And.intro (And.intro Tryd.underlying4 (And.intro sz4 agg4)) (And.intro zero4 (And.intro Tryd.underlying5 sz5))) (And.intro (And.intro agg5 (And.intro zero5 Tryd.underlying6)) (And.intro (And.intro sz6 agg6) (And.intro zero6 Tryd.underlying7))))) (And.intro (And.intro (And.intro (And.intro sz7 (And.intro agg7 zero7)) (And.intro bld7 (And.intro Tryd.underlying8 sz8))) (And.intro (And.intro agg8 (And.intro zero8 bld8)) (And.intro Tryd.underlying9 (And.intro sz9 agg9)))) (And.intro (And.intro (And.intro zero9 (And.intro Tryd.underlying10 sz10)) (And.intro agg10 (And.intro zero10 Tryd.underlying11))) (And.intro (And.intro sz11 (And.intro agg11 zero11)) (And.intro (And.intro Tryd.underlying12 sz12) (And.intro agg12 zero12))))))
def tys1 := (And.intro (And.intro (And.intro (And.intro (And.intro Tryd.underlying13 (And.intro sz13 agg13)) (And.intro zero13 (And.intro bld13 Tryd.underlying14))) (And.intro (And.intro sz14 (And.intro agg14 zero14)) (And.intro bld14 (And.intro Tryd.underlying15 sz15)))) (And.intro (And.intro (And.intro agg15 (And.intro zero15 Tryd.underlying16)) (And.intro sz16 (And.intro agg16 zero16))) (And.intro (And.intro Tryd.underlying17 (And.intro sz17 agg17)) (And.intro (And.intro zero17 Tryd.underlying18) (And.intro sz18 agg18))))) (And.intro (And.intro (And.intro (And.intro zero18 (And.intro bld18 Tryd.underlying19)) (And.intro sz19 (And.intro agg19 zero19))) (And.intro (And.intro bld19 (And.intro Tryd.underlying20 sz20)) (And.intro agg20 (And.intro zero20 Tryd.underlying21)))) (And.intro (And.intro (And.intro sz21 (And.intro agg21 zero21)) (And.intro Tryd.underlying22 (And.intro sz22 agg22))) (And.intro (And.intro zero22 (And.intro elem22 Tryd.underlying23)) (And.intro (And.intro sz23 agg23) (And.intro zero23 Tryd.underlying24))))))
def tys2 := (And.intro (And.intro (And.intro (And.intro (And.intro sz24 (And.intro agg24 zero24)) (And.intro Tryd.underlying25 (And.intro sz25 agg25))) (And.intro (And.intro zero25 (And.intro Tryd.underlying27 sz27)) (And.intro agg27 (And.intro zero27 Tryd.underlying28)))) (And.intro (And.intro (And.intro sz28 (And.intro agg28 zero28)) (And.intro elem28 (And.intro Tryd.underlying29 sz29))) (And.intro (And.intro agg29 (And.intro zero29 elem29)) (And.intro (And.intro Tryd.underlying30 sz30) (And.intro agg30 zero30))))) (And.intro (And.intro (And.intro (And.intro Tryd.underlying31 (And.intro sz31 agg31)) (And.intro zero31 (And.intro Tryd.underlying33 sz33))) (And.intro (And.intro agg33 (And.intro zero33 Tryd.underlying34)) (And.intro sz34 (And.intro agg34 zero34)))) (And.intro (And.intro (And.intro bld34 (And.intro Tryd.underlying35 sz35)) (And.intro agg35 (And.intro zero35 bld35))) (And.intro (And.intro Tryd.underlying36 (And.intro sz36 agg36)) (And.intro (And.intro zero36 Tryd.underlying37) (And.intro sz37 agg37))))))
def tys3 := (And.intro (And.intro (And.intro (And.intro (And.intro zero37 (And.intro Tryd.underlying38 sz38)) (And.intro agg38 (And.intro zero38 bld38))) (And.intro (And.intro Tryd.underlying39 (And.intro sz39 agg39)) (And.intro zero39 (And.intro bld39 Tryd.underlying41)))) (And.intro (And.intro (And.intro sz41 (And.intro agg41 zero41)) (And.intro Tryd.underlying42 (And.intro sz42 agg42))) (And.intro (And.intro zero42 (And.intro Tryd.underlying43 sz43)) (And.intro (And.intro agg43 zero43) (And.intro elem43 Tryd.underlying44))))) (And.intro (And.intro (And.intro (And.intro sz44 (And.intro agg44 zero44)) (And.intro Tryd.underlying45 (And.intro sz45 agg45))) (And.intro (And.intro zero45 (And.intro Tryd.underlying46 sz46)) (And.intro agg46 (And.intro zero46 Tryd.underlying48)))) (And.intro (And.intro (And.intro sz48 (And.intro agg48 zero48)) (And.intro Tryd.underlying49 (And.intro sz49 agg49))) (And.intro (And.intro zero49 (And.intro bld49 Tryd.underlying50)) (And.intro (And.intro sz50 agg50) (And.intro zero50 bld50))))))
def tys4 := (And.intro (And.intro (And.intro (And.intro (And.intro Tryd.underlying52 (And.intro sz52 agg52)) (And.intro zero52 (And.intro Tryd.underlying54 sz54))) (And.intro (And.intro agg54 (And.intro zero54 Tryd.underlying55)) (And.intro sz55 (And.intro agg55 zero55)))) (And.intro (And.intro (And.intro Tryd.underlying57 (And.intro sz57 agg57)) (And.intro zero57 (And.intro Tryd.underlying58 sz58))) (And.intro (And.intro agg58 (And.intro zero58 Tryd.underlying59)) (And.intro (And.intro sz59 agg59) (And.intro zero59 elem59))))) (And.intro (And.intro (And.intro (And.intro Tryd.underlying60 (And.intro sz60 agg60)) (And.intro zero60 (And.intro Tryd.underlying62 sz62))) (And.intro (And.intro agg62 (And.intro zero62 Tryd.underlying63)) (And.intro sz63 (And.intro agg63 zero63)))) (And.intro (And.intro (And.intro Tryd.underlying64 (And.intro sz64 agg64)) (And.intro zero64 (And.intro Tryd.underlying65 sz65))) (And.intro (And.intro agg65 (And.intro zero65 elem65)) (And.intro (And.intro Tryd.underlying66 sz66) (And.intro agg66 zero66))))))
def tys5 := (And.intro (And.intro (And.intro (And.intro (And.intro Tryd.underlying67 (And.intro sz67 agg67)) (And.intro zero67 (And.intro Tryd.underlying69 sz69))) (And.intro (And.intro agg69 (And.intro zero69 Tryd.underlying70)) (And.intro sz70 (And.intro agg70 zero70)))) (And.intro (And.intro (And.intro Tryd.underlying71 (And.intro sz71 agg71)) (And.intro zero71 (And.intro bld71 Tryd.underlying72))) (And.intro (And.intro sz72 (And.intro agg72 zero72)) (And.intro (And.intro bld72 Tryd.underlying73) (And.intro sz73 agg73))))) (And.intro (And.intro (And.intro (And.intro zero73 (And.intro elem73 Tryd.underlying74)) (And.intro sz74 (And.intro agg74 zero74))) (And.intro (And.intro Tryd.underlying76 (And.intro sz76 agg76)) (And.intro zero76 (And.intro Tryd.underlying77 sz77)))) (And.intro (And.intro (And.intro agg77 (And.intro zero77 Tryd.underlying78)) (And.intro sz78 (And.intro agg78 zero78))) (And.intro (And.intro bld78 (And.intro Tryd.underlying79 sz79)) (And.intro (And.intro agg79 zero79) (And.intro bld79 Tryd.underlying80))))))
def tys6 := (And.intro (And.intro (And.intro (And.intro (And.intro sz80 (And.intro agg80 zero80)) (And.intro elem80 (And.intro Tryd.underlying82 sz82))) (And.intro (And.intro agg82 (And.intro zero82 Tryd.underlying83)) (And.intro sz83 (And.intro agg83 zero83)))) (And.intro (And.intro (And.intro bld83 (And.intro Tryd.underlying84 sz84)) (And.intro agg84 (And.intro zero84 bld84))) (And.intro (And.intro Tryd.underlying85 (And.intro sz85 agg85)) (And.intro (And.intro zero85 Tryd.underlying86) (And.intro sz86 agg86))))) (And.intro (And.intro (And.intro (And.intro zero86 (And.intro bld86 Tryd.underlying87)) (And.intro sz87 (And.intro agg87 zero87))) (And.intro (And.intro bld87 (And.intro Tryd.underlying88 sz88)) (And.intro agg88 (And.intro zero88 Tryd.underlying89)))) (And.intro (And.intro (And.intro sz89 (And.intro agg89 zero89)) (And.intro bld89 (And.intro Tryd.underlying90 sz90))) (And.intro (And.intro agg90 (And.intro zero90 bld90)) (And.intro (And.intro Tryd.underlying91 sz91) (And.intro agg91 zero91))))))
def tys7 := (And.intro (And.intro (And.intro (And.intro (And.intro elem91 (And.intro Tryd.underlying92 sz92)) (And.intro agg92 (And.intro zero92 Tryd.underlying93))) (And.intro (And.intro sz93 (And.intro agg93 zero93)) (And.intro elem93 (And.intro Tryd.underlying95 sz95)))) (And.intro (And.intro (And.intro agg95 (And.intro zero95 Tryd.underlying96)) (And.intro sz96 (And.intro agg96 zero96))) (And.intro (And.intro Tryd.underlying97 (And.intro sz97 agg97)) (And.intro (And.intro zero97 bld97) (And.intro Tryd.underlying98 sz98))))) (And.intro (And.intro (And.intro (And.intro agg98 (And.intro zero98 bld98)) (And.intro Tryd.underlying99 (And.intro sz99 agg99))) (And.intro (And.intro zero99 (And.intro elem99 Tryd.underlying100)) (And.intro sz100 (And.intro agg100 zero100)))) (And.intro (And.intro (And.intro elem100 (And.intro Tryd.underlying101 sz101)) (And.intro agg101 (And.intro zero101 elem101))) (And.intro (And.intro Tryd.underlying102 (And.intro sz102 agg102)) (And.intro (And.intro zero102 bld102) (And.intro Tryd.underlying103 sz103))))))
def tys8 := (And.intro (And.intro (And.intro (And.intro (And.intro agg103 (And.intro zero103 bld103)) (And.intro Tryd.underlying105 (And.intro sz105 agg105))) (And.intro (And.intro zero105 (And.intro Tryd.underlying106 sz106)) (And.intro agg106 (And.intro zero106 elem106)))) (And.intro (And.intro (And.intro Tryd.underlying108 (And.intro sz108 agg108)) (And.intro zero108 (And.intro Tryd.underlying109 sz109))) (And.intro (And.intro agg109 (And.intro zero109 Tryd.underlying110)) (And.intro (And.intro sz110 agg110) (And.intro zero110 Tryd.underlying112))))) (And.intro (And.intro (And.intro (And.intro sz112 (And.intro agg112 zero112)) (And.intro Tryd.underlying114 (And.intro sz114 agg114))) (And.intro (And.intro zero114 (And.intro Tryd.underlying115 sz115)) (And.intro agg115 (And.intro zero115 Tryd.underlying116)))) (And.intro (And.intro (And.intro sz116 (And.intro agg116 zero116)) (And.intro Tryd.underlying117 (And.intro sz117 agg117))) (And.intro (And.intro zero117 (And.intro Tryd.underlying118 sz118)) (And.intro (And.intro agg118 zero118) (And.intro Tryd.underlying119 sz119))))))
def tys9 := (And.intro (And.intro (And.intro (And.intro (And.intro agg119 (And.intro zero119 bld119)) (And.intro Tryd.underlying120 (And.intro sz120 agg120))) (And.intro (And.intro zero120 (And.intro bld120 Tryd.underlying121)) (And.intro sz121 (And.intro agg121 zero121)))) (And.intro (And.intro (And.intro Tryd.underlying122 (And.intro sz122 agg122)) (And.intro zero122 (And.intro bld122 Tryd.underlying123))) (And.intro (And.intro sz123 (And.intro agg123 zero123)) (And.intro (And.intro bld123 Tryd.underlying124) (And.intro sz124 agg124))))) (And.intro (And.intro (And.intro (And.intro zero124 (And.intro Tryd.underlying125 sz125)) (And.intro agg125 (And.intro zero125 bld125))) (And.intro (And.intro Tryd.underlying126 (And.intro sz126 agg126)) (And.intro zero126 (And.intro bld126 Tryd.underlying127)))) (And.intro (And.intro (And.intro sz127 (And.intro agg127 zero127)) (And.intro bld127 (And.intro Tryd.underlying128 sz128))) (And.intro (And.intro agg128 (And.intro zero128 bld128)) (And.intro (And.intro Tryd.underlying130 sz130) (And.intro agg130 zero130))))))
def tys10 := (And.intro (And.intro (And.intro (And.intro (And.intro Tryd.underlying131 (And.intro sz131 agg131)) (And.intro zero131 (And.intro Tryd.underlying132 sz132))) (And.intro (And.intro agg132 (And.intro zero132 Tryd.underlying133)) (And.intro sz133 (And.intro agg133 zero133)))) (And.intro (And.intro (And.intro Tryd.underlying135 (And.intro sz135 agg135)) (And.intro zero135 (And.intro Tryd.underlying136 sz136))) (And.intro (And.intro agg136 (And.intro zero136 bld136)) (And.intro (And.intro Tryd.underlying137 sz137) (And.intro agg137 zero137))))) (And.intro (And.intro (And.intro (And.intro bld137 (And.intro Tryd.underlying138 Tryd.underlying139)) (And.intro Tryd.underlying140 (And.intro sz140 agg140))) (And.intro (And.intro zero140 (And.intro bld140 Tryd.underlying141)) (And.intro sz141 (And.intro agg141 zero141)))) (And.intro (And.intro (And.intro bld141 (And.intro Tryd.underlying142 sz142)) (And.intro agg142 (And.intro zero142 bld142))) (And.intro (And.intro Tryd.underlying143 (And.intro sz143 agg143)) (And.intro (And.intro zero143 bld143) (And.intro Tryd.underlying144 sz144))))))
def tys11 := (And.intro (And.intro (And.intro (And.intro (And.intro agg144 (And.intro zero144 bld144)) (And.intro Tryd.underlying145 (And.intro sz145 agg145))) (And.intro (And.intro zero145 (And.intro bld145 Tryd.underlying146)) (And.intro sz146 (And.intro agg146 zero146)))) (And.intro (And.intro (And.intro Tryd.underlying147 (And.intro sz147 agg147)) (And.intro zero147 (And.intro bld147 Tryd.underlying148))) (And.intro (And.intro sz148 (And.intro agg148 zero148)) (And.intro (And.intro bld148 Tryd.underlying149) (And.intro sz149 agg149))))) (And.intro (And.intro (And.intro (And.intro zero149 (And.intro Tryd.underlying150 sz150)) (And.intro agg150 (And.intro zero150 Tryd.underlying151))) (And.intro (And.intro sz151 (And.intro agg151 zero151)) (And.intro bld151 (And.intro Tryd.underlying152 sz152)))) (And.intro (And.intro (And.intro agg152 (And.intro zero152 bld152)) (And.intro Tryd.underlying154 (And.intro sz154 agg154))) (And.intro (And.intro zero154 (And.intro Tryd.underlying155 sz155)) (And.intro (And.intro agg155 zero155) (And.intro bld155 Tryd.underlying156))))))
def tys12 := (And.intro (And.intro (And.intro (And.intro (And.intro sz156 (And.intro agg156 zero156)) (And.intro bld156 (And.intro Tryd.underlying157 sz157))) (And.intro (And.intro agg157 (And.intro zero157 Tryd.underlying158)) (And.intro sz158 (And.intro agg158 zero158)))) (And.intro (And.intro (And.intro Tryd.underlying159 (And.intro sz159 agg159)) (And.intro zero159 (And.intro Tryd.underlying160 sz160))) (And.intro (And.intro agg160 (And.intro zero160 Tryd.underlying162)) (And.intro (And.intro sz162 agg162) (And.intro zero162 bld162))))) (And.intro (And.intro (And.intro (And.intro Tryd.underlying163 (And.intro sz163 agg163)) (And.intro zero163 (And.intro bld163 Tryd.underlying164))) (And.intro (And.intro sz164 (And.intro agg164 zero164)) (And.intro Tryd.underlying165 (And.intro sz165 agg165)))) (And.intro (And.intro (And.intro zero165 (And.intro Tryd.underlying167 sz167)) (And.intro agg167 (And.intro zero167 Tryd.underlying168))) (And.intro (And.intro sz168 (And.intro agg168 zero168)) (And.intro (And.intro elem168 Tryd.underlying169) (And.intro sz169 agg169))))))
def tys13 := (And.intro (And.intro (And.intro (And.intro (And.intro zero169 (And.intro Tryd.underlying170 sz170)) (And.intro agg170 (And.intro zero170 elem170))) (And.intro (And.intro Tryd.underlying171 (And.intro sz171 agg171)) (And.intro zero171 (And.intro bld171 Tryd.underlying172)))) (And.intro (And.intro (And.intro sz172 (And.intro agg172 zero172)) (And.intro bld172 (And.intro Tryd.underlying173 sz173))) (And.intro (And.intro agg173 (And.intro zero173 bld173)) (And.intro (And.intro Tryd.underlying174 sz174) (And.intro agg174 zero174))))) (And.intro (And.intro (And.intro (And.intro Tryd.underlying175 (And.intro sz175 agg175)) (And.intro zero175 (And.intro Tryd.underlying176 sz176))) (And.intro (And.intro agg176 (And.intro zero176 bld176)) (And.intro Tryd.underlying177 (And.intro sz177 agg177)))) (And.intro (And.intro (And.intro zero177 (And.intro bld177 Tryd.underlying178)) (And.intro sz178 (And.intro agg178 zero178))) (And.intro (And.intro bld178 (And.intro Tryd.underlying179 sz179)) (And.intro (And.intro agg179 zero179) (And.intro bld179 Tryd.underlying180))))))
def tys14 := (And.intro (And.intro (And.intro (And.intro (And.intro sz180 (And.intro agg180 zero180)) (And.intro Tryd.underlying181 (And.intro Tryd.underlying182 sz182))) (And.intro (And.intro agg182 (And.intro zero182 elem182)) (And.intro Tryd.underlying183 (And.intro sz183 agg183)))) (And.intro (And.intro (And.intro zero183 (And.intro Tryd.underlying184 sz184)) (And.intro agg184 (And.intro zero184 Tryd.underlying185))) (And.intro (And.intro sz185 (And.intro agg185 zero185)) (And.intro (And.intro Tryd.underlying186 sz186) (And.intro agg186 zero186))))) (And.intro (And.intro (And.intro (And.intro Tryd.underlying187 (And.intro sz187 agg187)) (And.intro zero187 (And.intro Tryd.underlying188 sz188))) (And.intro (And.intro agg188 (And.intro zero188 Tryd.underlying189)) (And.intro sz189 (And.intro agg189 zero189)))) (And.intro (And.intro (And.intro Tryd.underlying190 (And.intro sz190 agg190)) (And.intro zero190 (And.intro Tryd.underlying191 sz191))) (And.intro (And.intro agg191 (And.intro zero191 Tryd.underlying192)) (And.intro (And.intro sz192 agg192) (And.intro zero192 elem192))))))
def tys15 := (And.intro (And.intro (And.intro (And.intro (And.intro Tryd.underlying193 (And.intro sz193 agg193)) (And.intro zero193 (And.intro bld193 Tryd.underlying194))) (And.intro (And.intro sz194 (And.intro agg194 zero194)) (And.intro bld194 (And.intro Tryd.underlying195 sz195)))) (And.intro (And.intro (And.intro agg195 (And.intro zero195 elem195)) (And.intro Tryd.underlying196 (And.intro sz196 agg196))) (And.intro (And.intro zero196 (And.intro Tryd.underlying197 sz197)) (And.intro (And.intro agg197 zero197) (And.intro bld197 Tryd.underlying198))))) (And.intro (And.intro (And.intro (And.intro sz198 (And.intro agg198 zero198)) (And.intro bld198 (And.intro Tryd.underlying199 sz199))) (And.intro (And.intro agg199 (And.intro zero199 Tryd.underlying200)) (And.intro sz200 (And.intro agg200 zero200)))) (And.intro (And.intro (And.intro Tryd.underlying201 (And.intro sz201 agg201)) (And.intro zero201 (And.intro Tryd.underlying202 sz202))) (And.intro (And.intro agg202 (And.intro zero202 Tryd.underlying203)) (And.intro (And.intro sz203 agg203) (And.intro zero203 Tryd.underlying204))))))
def tys16 := (And.intro (And.intro (And.intro (And.intro (And.intro sz204 (And.intro agg204 zero204)) (And.intro Tryd.underlying205 (And.intro sz205 agg205))) (And.intro (And.intro zero205 (And.intro Tryd.underlying206 Tryd.underlying207)) (And.intro Tryd.underlying208 (And.intro sz208 agg208)))) (And.intro (And.intro (And.intro zero208 (And.intro bld208 Tryd.underlying209)) (And.intro sz209 (And.intro agg209 zero209))) (And.intro (And.intro bld209 (And.intro Tryd.underlying210 sz210)) (And.intro (And.intro agg210 zero210) (And.intro Tryd.underlying211 sz211))))) (And.intro (And.intro (And.intro (And.intro agg211 (And.intro zero211 Tryd.underlying213)) (And.intro sz213 (And.intro agg213 zero213))) (And.intro (And.intro Tryd.underlying214 (And.intro sz214 agg214)) (And.intro zero214 (And.intro Tryd.underlying215 sz215)))) (And.intro (And.intro (And.intro agg215 (And.intro zero215 bld215)) (And.intro Tryd.underlying216 (And.intro sz216 agg216))) (And.intro (And.intro zero216 (And.intro bld216 Tryd.underlying217)) (And.intro (And.intro sz217 agg217) (And.intro zero217 Tryd.underlying218))))))
def tys17 := (And.intro (And.intro (And.intro (And.intro (And.intro sz218 (And.intro agg218 zero218)) (And.intro Tryd.underlying219 (And.intro sz219 agg219))) (And.intro (And.intro zero219 (And.intro Tryd.underlying220 sz220)) (And.intro agg220 (And.intro zero220 Tryd.underlying222)))) (And.intro (And.intro (And.intro sz222 (And.intro agg222 zero222)) (And.intro Tryd.underlying223 (And.intro sz223 agg223))) (And.intro (And.intro zero223 (And.intro Tryd.underlying224 sz224)) (And.intro (And.intro agg224 zero224) (And.intro Tryd.underlying225 sz225))))) (And.intro (And.intro (And.intro (And.intro agg225 (And.intro zero225 Tryd.underlying227)) (And.intro sz227 (And.intro agg227 zero227))) (And.intro (And.intro Tryd.underlying228 (And.intro sz228 agg228)) (And.intro zero228 (And.intro Tryd.underlying229 sz229)))) (And.intro (And.intro (And.intro agg229 (And.intro zero229 elem229)) (And.intro Tryd.underlying230 (And.intro sz230 agg230))) (And.intro (And.intro zero230 (And.intro Tryd.underlying231 sz231)) (And.intro (And.intro agg231 zero231) (And.intro Tryd.underlying232 sz232))))))
def tys18 := (And.intro (And.intro (And.intro (And.intro (And.intro agg232 (And.intro zero232 Tryd.underlying233)) (And.intro sz233 (And.intro agg233 zero233))) (And.intro (And.intro Tryd.underlying234 (And.intro sz234 agg234)) (And.intro zero234 (And.intro Tryd.underlying235 sz235)))) (And.intro (And.intro (And.intro agg235 (And.intro zero235 Tryd.underlying236)) (And.intro sz236 (And.intro agg236 zero236))) (And.intro (And.intro Tryd.underlying237 (And.intro sz237 agg237)) (And.intro (And.intro zero237 Tryd.underlying238) (And.intro sz238 agg238))))) (And.intro (And.intro (And.intro (And.intro zero238 (And.intro Tryd.underlying239 sz239)) (And.intro agg239 (And.intro zero239 bld239))) (And.intro (And.intro Tryd.underlying240 (And.intro sz240 agg240)) (And.intro zero240 (And.intro bld240 Tryd.underlying241)))) (And.intro (And.intro (And.intro sz241 (And.intro agg241 zero241)) (And.intro Tryd.underlying242 (And.intro sz242 agg242))) (And.intro (And.intro zero242 (And.intro Tryd.underlying243 sz243)) (And.intro (And.intro agg243 zero243) (And.intro Tryd.underlying244 sz244))))))
def tys19 := (And.intro (And.intro (And.intro (And.intro (And.intro agg244 (And.intro zero244 bld244)) (And.intro Tryd.underlying245 (And.intro sz245 agg245))) (And.intro (And.intro zero245 (And.intro Tryd.underlying246 sz246)) (And.intro agg246 (And.intro zero246 bld246)))) (And.intro (And.intro (And.intro Tryd.underlying247 (And.intro sz247 agg247)) (And.intro zero247 (And.intro Tryd.underlying248 sz248))) (And.intro (And.intro agg248 (And.intro zero248 Tryd.underlying250)) (And.intro (And.intro sz250 agg250) (And.intro zero250 Tryd.underlying251))))) (And.intro (And.intro (And.intro (And.intro sz251 (And.intro agg251 zero251)) (And.intro Tryd.underlying252 (And.intro sz252 agg252))) (And.intro (And.intro zero252 (And.intro Tryd.underlying254 sz254)) (And.intro agg254 (And.intro zero254 Tryd.underlying255)))) (And.intro (And.intro (And.intro sz255 (And.intro agg255 zero255)) (And.intro Tryd.underlying256 (And.intro sz256 agg256))) (And.intro (And.intro zero256 (And.intro Tryd.underlying257 sz257)) (And.intro (And.intro agg257 zero257) (And.intro bld257 Tryd.underlying258))))))
def tys20 := (And.intro (And.intro (And.intro (And.intro (And.intro sz258 (And.intro agg258 zero258)) (And.intro Tryd.underlying260 (And.intro sz260 agg260))) (And.intro (And.intro zero260 (And.intro Tryd.underlying261 sz261)) (And.intro agg261 (And.intro zero261 Tryd.underlying262)))) (And.intro (And.intro (And.intro sz262 (And.intro agg262 zero262)) (And.intro Tryd.underlying263 (And.intro sz263 agg263))) (And.intro (And.intro zero263 (And.intro Tryd.underlying264 sz264)) (And.intro (And.intro agg264 zero264) (And.intro Tryd.underlying265 sz265))))) (And.intro (And.intro (And.intro (And.intro agg265 (And.intro zero265 Tryd.underlying266)) (And.intro sz266 (And.intro agg266 zero266))) (And.intro (And.intro Tryd.underlying267 (And.intro sz267 agg267)) (And.intro zero267 (And.intro Tryd.underlying268 sz268)))) (And.intro (And.intro (And.intro agg268 (And.intro zero268 Tryd.underlying269)) (And.intro sz269 (And.intro agg269 zero269))) (And.intro (And.intro Tryd.underlying270 (And.intro sz270 agg270)) (And.intro (And.intro zero270 Tryd.underlying271) (And.intro sz271 agg271))))))
def tys21 := (And.intro (And.intro (And.intro (And.intro (And.intro zero271 (And.intro Tryd.underlying272 sz272)) (And.intro agg272 (And.intro zero272 Tryd.underlying273))) (And.intro (And.intro sz273 (And.intro agg273 zero273)) (And.intro bld273 (And.intro Tryd.underlying274 Tryd.underlying275)))) (And.intro (And.intro (And.intro sz275 (And.intro agg275 zero275)) (And.intro Tryd.underlying276 (And.intro sz276 agg276))) (And.intro (And.intro zero276 (And.intro Tryd.underlying278 sz278)) (And.intro (And.intro agg278 zero278) (And.intro Tryd.underlying279 sz279))))) (And.intro (And.intro (And.intro (And.intro agg279 (And.intro zero279 bld279)) (And.intro Tryd.underlying280 (And.intro Tryd.underlying281 sz281))) (And.intro (And.intro agg281 (And.intro zero281 Tryd.underlying282)) (And.intro sz282 (And.intro agg282 zero282)))) (And.intro (And.intro (And.intro bld282 (And.intro Tryd.underlying283 sz283)) (And.intro agg283 (And.intro zero283 bld283))) (And.intro (And.intro Tryd.underlying284 (And.intro Tryd.underlying285 Tryd.underlying286)) (And.intro (And.intro Tryd.underlying287 sz287) (And.intro agg287 zero287))))))
def tys22 := (And.intro (And.intro (And.intro (And.intro (And.intro Tryd.underlying288 (And.intro sz288 agg288)) (And.intro zero288 (And.intro Tryd.underlying289 sz289))) (And.intro (And.intro agg289 (And.intro zero289 Tryd.underlying290)) (And.intro sz290 (And.intro agg290 zero290)))) (And.intro (And.intro (And.intro Tryd.underlying291 (And.intro sz291 agg291)) (And.intro zero291 (And.intro Tryd.underlying292 sz292))) (And.intro (And.intro agg292 (And.intro zero292 Tryd.underlying293)) (And.intro (And.intro sz293 agg293) (And.intro zero293 bld293))))) (And.intro (And.intro (And.intro (And.intro Tryd.underlying294 (And.intro sz294 agg294)) (And.intro zero294 (And.intro bld294 Tryd.underlying295))) (And.intro (And.intro sz295 (And.intro agg295 zero295)) (And.intro Tryd.underlying298 (And.intro el1 el2)))) (And.intro (And.intro (And.intro el3 (And.intro el4 el5)) (And.intro el6 (And.intro el7 el8))) (And.intro (And.intro el9 (And.intro el10 el11)) (And.intro (And.intro el12 el13) (And.intro el14 el15))))))
def tys23 := (And.intro (And.intro (And.intro (And.intro (And.intro el16 (And.intro el17 el18)) (And.intro el19 (And.intro el20 el21))) (And.intro (And.intro el22 (And.intro el23 el24)) (And.intro el25 (And.intro el27 el28)))) (And.intro (And.intro (And.intro el29 (And.intro el30 el31)) (And.intro el33 (And.intro el34 el35))) (And.intro (And.intro el36 (And.intro el37 el38)) (And.intro (And.intro el39 el41) (And.intro el42 el43))))) (And.intro (And.intro (And.intro (And.intro el44 (And.intro el45 el46)) (And.intro el48 (And.intro el49 el50))) (And.intro (And.intro el52 (And.intro el54 el55)) (And.intro el57 (And.intro el58 el59)))) (And.intro (And.intro (And.intro el60 (And.intro el62 el63)) (And.intro el64 (And.intro el65 el66))) (And.intro (And.intro el67 (And.intro el69 el70)) (And.intro (And.intro el71 el72) (And.intro el73 el74))))))
def tys24 := (And.intro (And.intro (And.intro (And.intro (And.intro el76 (And.intro el77 el78)) (And.intro el79 (And.intro el80 el82))) (And.intro (And.intro el83 (And.intro el84 el85)) (And.intro el86 (And.intro el87 el88)))) (And.intro (And.intro (And.intro el89 (And.intro el90 el91)) (And.intro el92 (And.intro el93 el95))) (And.intro (And.intro el96 (And.intro el97 el98)) (And.intro (And.intro el99 el100) (And.intro el101 el102))))) (And.intro (And.intro (And.intro (And.intro el103 (And.intro el105 el106)) (And.intro el108 (And.intro el109 el110))) (And.intro (And.intro el112 (And.intro el114 el115)) (And.intro el116 (And.intro el117 el118)))) (And.intro (And.intro (And.intro el119 (And.intro el120 el121)) (And.intro el122 (And.intro el123 el124))) (And.intro (And.intro el125 (And.intro el126 el127)) (And.intro (And.intro el128 el130) (And.intro el131 el132))))))
def tys25 := (And.intro (And.intro (And.intro (And.intro (And.intro el133 (And.intro el135 el136)) (And.intro el137 (And.intro el140 el141))) (And.intro (And.intro el142 (And.intro el143 el144)) (And.intro el145 (And.intro el146 el147)))) (And.intro (And.intro (And.intro el148 (And.intro el149 el150)) (And.intro el151 (And.intro el152 el154))) (And.intro (And.intro el155 (And.intro el156 el157)) (And.intro (And.intro el158 el159) (And.intro el160 el162))))) (And.intro (And.intro (And.intro (And.intro el163 (And.intro el164 el165)) (And.intro el167 (And.intro el168 el169))) (And.intro (And.intro el170 (And.intro el171 el172)) (And.intro el173 (And.intro el174 el175)))) (And.intro (And.intro (And.intro el176 (And.intro el177 el178)) (And.intro el179 (And.intro el180 el182))) (And.intro (And.intro el183 (And.intro el184 el185)) (And.intro (And.intro el186 el187) (And.intro el188 el189))))))
def tys26 := (And.intro (And.intro (And.intro (And.intro (And.intro el190 (And.intro el191 el192)) (And.intro el193 (And.intro el194 el195))) (And.intro (And.intro el196 (And.intro el197 el198)) (And.intro el199 (And.intro el200 el201)))) (And.intro (And.intro (And.intro el202 (And.intro el203 el204)) (And.intro el205 (And.intro el208 el209))) (And.intro (And.intro el210 (And.intro el211 el213)) (And.intro (And.intro el214 el215) (And.intro el216 el217))))) (And.intro (And.intro (And.intro (And.intro el218 (And.intro el219 el220)) (And.intro el222 (And.intro el223 el224))) (And.intro (And.intro el225 (And.intro el227 el228)) (And.intro el229 (And.intro el230 el231)))) (And.intro (And.intro (And.intro el232 (And.intro el233 el234)) (And.intro el235 (And.intro el236 el237))) (And.intro (And.intro el238 (And.intro el239 el240)) (And.intro (And.intro el241 el242) (And.intro el243 el244))))))
def tys27 := (And.intro (And.intro (And.intro (And.intro (And.intro el245 el246) (And.intro el247 (And.intro el248 el250))) (And.intro (And.intro el251 el252) (And.intro el254 (And.intro el255 el256)))) (And.intro (And.intro (And.intro el257 el258) (And.intro el260 (And.intro el261 el262))) (And.intro (And.intro el263 (And.intro el264 el265)) (And.intro el266 (And.intro el267 el268))))) (And.intro (And.intro (And.intro (And.intro el269 el270) (And.intro el271 (And.intro el272 el273))) (And.intro (And.intro el275 el276) (And.intro el278 (And.intro el279 el281)))) (And.intro (And.intro (And.intro el282 el283) (And.intro el287 (And.intro el288 el289))) (And.intro (And.intro el290 (And.intro el291 el292)) (And.intro el293 (And.intro el294 el295))))))
def tys := (And.intro (And.intro (And.intro (And.intro tys0 (And.intro tys1 tys2)) (And.intro (And.intro tys3 tys4) (And.intro tys5 tys6))) (And.intro (And.intro tys7 (And.intro tys8 tys9)) (And.intro (And.intro tys10 tys11) (And.intro tys12 tys13)))) (And.intro (And.intro (And.intro tys14 (And.intro tys15 tys16)) (And.intro (And.intro tys17 tys18) (And.intro tys19 tys20))) (And.intro (And.intro tys21 (And.intro tys22 tys23)) (And.intro (And.intro tys24 tys25) (And.intro tys26 tys27)))))
end Go.Proofs.YthpfimildcbgmaaDoor
