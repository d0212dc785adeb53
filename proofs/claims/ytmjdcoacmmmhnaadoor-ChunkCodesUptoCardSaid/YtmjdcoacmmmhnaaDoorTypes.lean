/-
Facts on the program's types.
-/
import Derived.Test.YtmjdcoacmmmhnaaDoorEvBun
import Derived.Test.YtmjdcoacmmmhnaaDoorProg
import Derived.KernelRfl
namespace Go.Proofs.YtmjdcoacmmmhnaaDoor
open Go Ev
set_option linter.all false
set_option linter.defProp false

theorem sz1 : sizeT Tryd.prog 1 = 1 := by kernel_rfl
theorem agg1 : aggT Tryd.prog 1 = some false := by kernel_rfl
theorem zero1 : zeroV Tryd.prog 1 = some (.nilf) := by kernel_rfl
theorem by1 : bytesT Tryd.prog 1 ≤ 1024 := of_decide_eq_true (by kernel_rfl)
theorem sz2 : sizeT Tryd.prog 2 = 1 := by kernel_rfl
theorem agg2 : aggT Tryd.prog 2 = some false := by kernel_rfl
theorem zero2 : zeroV Tryd.prog 2 = some (.int .i64 0) := by kernel_rfl
theorem by2 : bytesT Tryd.prog 2 ≤ 1024 := of_decide_eq_true (by kernel_rfl)
theorem sz3 : sizeT Tryd.prog 3 = 1 := by kernel_rfl
theorem agg3 : aggT Tryd.prog 3 = some false := by kernel_rfl
theorem zero3 : zeroV Tryd.prog 3 = some (.int .i64 0) := by kernel_rfl
theorem by3 : bytesT Tryd.prog 3 ≤ 1024 := of_decide_eq_true (by kernel_rfl)
theorem sz4 : sizeT Tryd.prog 4 = 1 := by kernel_rfl
theorem agg4 : aggT Tryd.prog 4 = some false := by kernel_rfl
theorem zero4 : zeroV Tryd.prog 4 = some (.bool false) := by kernel_rfl
theorem by4 : bytesT Tryd.prog 4 ≤ 1024 := of_decide_eq_true (by kernel_rfl)
theorem sz5 : sizeT Tryd.prog 5 = 1 := by kernel_rfl
theorem agg5 : aggT Tryd.prog 5 = some false := by kernel_rfl
theorem zero5 : zeroV Tryd.prog 5 = some (.int .u8 0) := by kernel_rfl
theorem by5 : bytesT Tryd.prog 5 ≤ 1024 := of_decide_eq_true (by kernel_rfl)
theorem sz6 : sizeT Tryd.prog 6 = 1 := by kernel_rfl
theorem agg6 : aggT Tryd.prog 6 = some false := by kernel_rfl
theorem zero6 : zeroV Tryd.prog 6 = some (.int .u8 0) := by kernel_rfl
theorem by6 : bytesT Tryd.prog 6 ≤ 1024 := of_decide_eq_true (by kernel_rfl)
theorem sz7 : sizeT Tryd.prog 7 = 4 := by kernel_rfl
theorem agg7 : aggT Tryd.prog 7 = some true := by kernel_rfl
theorem zero7 : zeroV Tryd.prog 7 = some (.agg [.int .i64 0, .int .i64 0, .bool false, .int .u8 0]) := by kernel_rfl
theorem by7 : bytesT Tryd.prog 7 ≤ 1024 := of_decide_eq_true (by kernel_rfl)
theorem bld7 (ps : List (Nat × V)) : build Tryd.prog 7 ps = (fillV (fun i => [(0, 1), (1, 1), (2, 1), (3, 1)][i]?) [.int .i64 0, .int .i64 0, .bool false, .int .u8 0] ps).map .agg := by kernel_rfl
theorem sz8 : sizeT Tryd.prog 8 = 4 := by kernel_rfl
theorem agg8 : aggT Tryd.prog 8 = some true := by kernel_rfl
theorem zero8 : zeroV Tryd.prog 8 = some (.agg [.int .i64 0, .int .i64 0, .bool false, .int .u8 0]) := by kernel_rfl
theorem by8 : bytesT Tryd.prog 8 ≤ 1024 := of_decide_eq_true (by kernel_rfl)
theorem bld8 (ps : List (Nat × V)) : build Tryd.prog 8 ps = (fillV (fun i => [(0, 1), (1, 1), (2, 1), (3, 1)][i]?) [.int .i64 0, .int .i64 0, .bool false, .int .u8 0] ps).map .agg := by kernel_rfl
theorem sz9 : sizeT Tryd.prog 9 = 1 := by kernel_rfl
theorem agg9 : aggT Tryd.prog 9 = some false := by kernel_rfl
theorem zero9 : zeroV Tryd.prog 9 = some (.str (bs [])) := by kernel_rfl
theorem by9 : bytesT Tryd.prog 9 ≤ 1024 := of_decide_eq_true (by kernel_rfl)
theorem sz10 : sizeT Tryd.prog 10 = 1 := by kernel_rfl
theorem agg10 : aggT Tryd.prog 10 = some false := by kernel_rfl
theorem zero10 : zeroV Tryd.prog 10 = some (.str (bs [])) := by kernel_rfl
theorem by10 : bytesT Tryd.prog 10 ≤ 1024 := of_decide_eq_true (by kernel_rfl)
theorem sz11 : sizeT Tryd.prog 11 = 1 := by kernel_rfl
theorem agg11 : aggT Tryd.prog 11 = some false := by kernel_rfl
theorem zero11 : zeroV Tryd.prog 11 = some (.str (bs [])) := by kernel_rfl
theorem by11 : bytesT Tryd.prog 11 ≤ 1024 := of_decide_eq_true (by kernel_rfl)
theorem sz12 : sizeT Tryd.prog 12 = 1 := by kernel_rfl
theorem agg12 : aggT Tryd.prog 12 = some false := by kernel_rfl
theorem zero12 : zeroV Tryd.prog 12 = some (.int .u64 0) := by kernel_rfl
theorem by12 : bytesT Tryd.prog 12 ≤ 1024 := of_decide_eq_true (by kernel_rfl)
theorem sz13 : sizeT Tryd.prog 13 = 2 := by kernel_rfl
theorem agg13 : aggT Tryd.prog 13 = some true := by kernel_rfl
theorem zero13 : zeroV Tryd.prog 13 = some (.agg [.str (bs []), .int .u64 0]) := by kernel_rfl
theorem by13 : bytesT Tryd.prog 13 ≤ 1024 := of_decide_eq_true (by kernel_rfl)
theorem bld13 (ps : List (Nat × V)) : build Tryd.prog 13 ps = (fillV (fun i => [(0, 1), (1, 1)][i]?) [.str (bs []), .int .u64 0] ps).map .agg := by kernel_rfl
theorem sz14 : sizeT Tryd.prog 14 = 2 := by kernel_rfl
theorem agg14 : aggT Tryd.prog 14 = some true := by kernel_rfl
theorem zero14 : zeroV Tryd.prog 14 = some (.agg [.str (bs []), .int .u64 0]) := by kernel_rfl
theorem by14 : bytesT Tryd.prog 14 ≤ 1024 := of_decide_eq_true (by kernel_rfl)
theorem bld14 (ps : List (Nat × V)) : build Tryd.prog 14 ps = (fillV (fun i => [(0, 1), (1, 1)][i]?) [.str (bs []), .int .u64 0] ps).map .agg := by kernel_rfl
theorem sz15 : sizeT Tryd.prog 15 = 1 := by kernel_rfl
theorem agg15 : aggT Tryd.prog 15 = some false := by kernel_rfl
theorem zero15 : zeroV Tryd.prog 15 = some (.nilp) := by kernel_rfl
theorem by15 : bytesT Tryd.prog 15 ≤ 1024 := of_decide_eq_true (by kernel_rfl)
theorem sz16 : sizeT Tryd.prog 16 = 1 := by kernel_rfl
theorem agg16 : aggT Tryd.prog 16 = some false := by kernel_rfl
theorem zero16 : zeroV Tryd.prog 16 = some (.nilp) := by kernel_rfl
theorem by16 : bytesT Tryd.prog 16 ≤ 1024 := of_decide_eq_true (by kernel_rfl)
theorem sz17 : sizeT Tryd.prog 17 = 1 := by kernel_rfl
theorem agg17 : aggT Tryd.prog 17 = some false := by kernel_rfl
theorem zero17 : zeroV Tryd.prog 17 = some (.nilp) := by kernel_rfl
theorem by17 : bytesT Tryd.prog 17 ≤ 1024 := of_decide_eq_true (by kernel_rfl)
theorem sz18 : sizeT Tryd.prog 18 = 1 := by kernel_rfl
theorem agg18 : aggT Tryd.prog 18 = some true := by kernel_rfl
theorem zero18 : zeroV Tryd.prog 18 = some (.agg [.nilp]) := by kernel_rfl
theorem by18 : bytesT Tryd.prog 18 ≤ 1024 := of_decide_eq_true (by kernel_rfl)
theorem bld18 (ps : List (Nat × V)) : build Tryd.prog 18 ps = (fillV (fun i => [(0, 1)][i]?) [.nilp] ps).map .agg := by kernel_rfl
theorem sz19 : sizeT Tryd.prog 19 = 1 := by kernel_rfl
theorem agg19 : aggT Tryd.prog 19 = some true := by kernel_rfl
theorem zero19 : zeroV Tryd.prog 19 = some (.agg [.nilp]) := by kernel_rfl
theorem by19 : bytesT Tryd.prog 19 ≤ 1024 := of_decide_eq_true (by kernel_rfl)
theorem bld19 (ps : List (Nat × V)) : build Tryd.prog 19 ps = (fillV (fun i => [(0, 1)][i]?) [.nilp] ps).map .agg := by kernel_rfl
theorem sz20 : sizeT Tryd.prog 20 = 1 := by kernel_rfl
theorem agg20 : aggT Tryd.prog 20 = some false := by kernel_rfl
theorem zero20 : zeroV Tryd.prog 20 = some (.nili) := by kernel_rfl
theorem by20 : bytesT Tryd.prog 20 ≤ 1024 := of_decide_eq_true (by kernel_rfl)
theorem sz21 : sizeT Tryd.prog 21 = 1 := by kernel_rfl
theorem agg21 : aggT Tryd.prog 21 = some false := by kernel_rfl
theorem zero21 : zeroV Tryd.prog 21 = some (.int .i32 0) := by kernel_rfl
theorem by21 : bytesT Tryd.prog 21 ≤ 1024 := of_decide_eq_true (by kernel_rfl)
theorem sz22 : sizeT Tryd.prog 22 = 1 := by kernel_rfl
theorem agg22 : aggT Tryd.prog 22 = some false := by kernel_rfl
theorem zero22 : zeroV Tryd.prog 22 = some (.nils) := by kernel_rfl
theorem by22 : bytesT Tryd.prog 22 ≤ 1024 := of_decide_eq_true (by kernel_rfl)
theorem elem22 : elemT Tryd.prog 22 = 2 := by kernel_rfl
theorem sz23 : sizeT Tryd.prog 23 = 1 := by kernel_rfl
theorem agg23 : aggT Tryd.prog 23 = some false := by kernel_rfl
theorem zero23 : zeroV Tryd.prog 23 = some (.nils) := by kernel_rfl
theorem by23 : bytesT Tryd.prog 23 ≤ 1024 := of_decide_eq_true (by kernel_rfl)
theorem elem23 : elemT Tryd.prog 23 = 1 := by kernel_rfl
theorem sz24 : sizeT Tryd.prog 24 = 1 := by kernel_rfl
theorem agg24 : aggT Tryd.prog 24 = some false := by kernel_rfl
theorem zero24 : zeroV Tryd.prog 24 = some (.int .i64 0) := by kernel_rfl
theorem by24 : bytesT Tryd.prog 24 ≤ 1024 := of_decide_eq_true (by kernel_rfl)
theorem sz26 : sizeT Tryd.prog 26 = 1 := by kernel_rfl
theorem agg26 : aggT Tryd.prog 26 = some false := by kernel_rfl
theorem zero26 : zeroV Tryd.prog 26 = some (.nilf) := by kernel_rfl
theorem by26 : bytesT Tryd.prog 26 ≤ 1024 := of_decide_eq_true (by kernel_rfl)
theorem sz28 : sizeT Tryd.prog 28 = 1 := by kernel_rfl
theorem agg28 : aggT Tryd.prog 28 = some false := by kernel_rfl
theorem zero28 : zeroV Tryd.prog 28 = some (.nilf) := by kernel_rfl
theorem by28 : bytesT Tryd.prog 28 ≤ 1024 := of_decide_eq_true (by kernel_rfl)
theorem sz30 : sizeT Tryd.prog 30 = 1 := by kernel_rfl
theorem agg30 : aggT Tryd.prog 30 = some false := by kernel_rfl
theorem zero30 : zeroV Tryd.prog 30 = some (.nilf) := by kernel_rfl
theorem by30 : bytesT Tryd.prog 30 ≤ 1024 := of_decide_eq_true (by kernel_rfl)
theorem sz31 : sizeT Tryd.prog 31 = 1 := by kernel_rfl
theorem agg31 : aggT Tryd.prog 31 = some false := by kernel_rfl
theorem zero31 : zeroV Tryd.prog 31 = some (.nilf) := by kernel_rfl
theorem by31 : bytesT Tryd.prog 31 ≤ 1024 := of_decide_eq_true (by kernel_rfl)
theorem sz32 : sizeT Tryd.prog 32 = 1 := by kernel_rfl
theorem agg32 : aggT Tryd.prog 32 = some false := by kernel_rfl
theorem zero32 : zeroV Tryd.prog 32 = some (.nilf) := by kernel_rfl
theorem by32 : bytesT Tryd.prog 32 ≤ 1024 := of_decide_eq_true (by kernel_rfl)
theorem sz33 : sizeT Tryd.prog 33 = 1 := by kernel_rfl
theorem agg33 : aggT Tryd.prog 33 = some false := by kernel_rfl
theorem zero33 : zeroV Tryd.prog 33 = some (.nilf) := by kernel_rfl
theorem by33 : bytesT Tryd.prog 33 ≤ 1024 := of_decide_eq_true (by kernel_rfl)
theorem sz34 : sizeT Tryd.prog 34 = 1 := by kernel_rfl
theorem agg34 : aggT Tryd.prog 34 = some false := by kernel_rfl
theorem zero34 : zeroV Tryd.prog 34 = some (.nils) := by kernel_rfl
theorem by34 : bytesT Tryd.prog 34 ≤ 1024 := of_decide_eq_true (by kernel_rfl)
theorem elem34 : elemT Tryd.prog 34 = 1 := by kernel_rfl
theorem sz35 : sizeT Tryd.prog 35 = 1 := by kernel_rfl
theorem agg35 : aggT Tryd.prog 35 = some false := by kernel_rfl
theorem zero35 : zeroV Tryd.prog 35 = some (.nilf) := by kernel_rfl
theorem by35 : bytesT Tryd.prog 35 ≤ 1024 := of_decide_eq_true (by kernel_rfl)
theorem sz36 : sizeT Tryd.prog 36 = 1 := by kernel_rfl
theorem agg36 : aggT Tryd.prog 36 = some false := by kernel_rfl
theorem zero36 : zeroV Tryd.prog 36 = some (.nilf) := by kernel_rfl
theorem by36 : bytesT Tryd.prog 36 ≤ 1024 := of_decide_eq_true (by kernel_rfl)
theorem sz37 : sizeT Tryd.prog 37 = 1 := by kernel_rfl
theorem agg37 : aggT Tryd.prog 37 = some false := by kernel_rfl
theorem zero37 : zeroV Tryd.prog 37 = some (.fl .f64 0) := by kernel_rfl
theorem by37 : bytesT Tryd.prog 37 ≤ 1024 := of_decide_eq_true (by kernel_rfl)
theorem sz38 : sizeT Tryd.prog 38 = 2 := by kernel_rfl
theorem agg38 : aggT Tryd.prog 38 = some true := by kernel_rfl
theorem zero38 : zeroV Tryd.prog 38 = some (.agg [.int .i64 0, .fl .f64 0]) := by kernel_rfl
theorem by38 : bytesT Tryd.prog 38 ≤ 1024 := of_decide_eq_true (by kernel_rfl)
theorem bld38 (ps : List (Nat × V)) : build Tryd.prog 38 ps = (fillV (fun i => [(0, 1), (1, 1)][i]?) [.int .i64 0, .fl .f64 0] ps).map .agg := by kernel_rfl
theorem sz39 : sizeT Tryd.prog 39 = 2 := by kernel_rfl
theorem agg39 : aggT Tryd.prog 39 = some true := by kernel_rfl
theorem zero39 : zeroV Tryd.prog 39 = some (.agg [.int .i64 0, .fl .f64 0]) := by kernel_rfl
theorem by39 : bytesT Tryd.prog 39 ≤ 1024 := of_decide_eq_true (by kernel_rfl)
theorem bld39 (ps : List (Nat × V)) : build Tryd.prog 39 ps = (fillV (fun i => [(0, 1), (1, 1)][i]?) [.int .i64 0, .fl .f64 0] ps).map .agg := by kernel_rfl
theorem sz40 : sizeT Tryd.prog 40 = 1 := by kernel_rfl
theorem agg40 : aggT Tryd.prog 40 = some false := by kernel_rfl
theorem zero40 : zeroV Tryd.prog 40 = some (.nilf) := by kernel_rfl
theorem by40 : bytesT Tryd.prog 40 ≤ 1024 := of_decide_eq_true (by kernel_rfl)
theorem sz41 : sizeT Tryd.prog 41 = 1 := by kernel_rfl
theorem agg41 : aggT Tryd.prog 41 = some false := by kernel_rfl
theorem zero41 : zeroV Tryd.prog 41 = some (.nils) := by kernel_rfl
theorem by41 : bytesT Tryd.prog 41 ≤ 1024 := of_decide_eq_true (by kernel_rfl)
theorem elem41 : elemT Tryd.prog 41 = 1 := by kernel_rfl
theorem sz42 : sizeT Tryd.prog 42 = 1 := by kernel_rfl
theorem agg42 : aggT Tryd.prog 42 = some false := by kernel_rfl
theorem zero42 : zeroV Tryd.prog 42 = some (.nilp) := by kernel_rfl
theorem by42 : bytesT Tryd.prog 42 ≤ 1024 := of_decide_eq_true (by kernel_rfl)
theorem sz43 : sizeT Tryd.prog 43 = 1 := by kernel_rfl
theorem agg43 : aggT Tryd.prog 43 = some false := by kernel_rfl
theorem zero43 : zeroV Tryd.prog 43 = some (.nilf) := by kernel_rfl
theorem by43 : bytesT Tryd.prog 43 ≤ 1024 := of_decide_eq_true (by kernel_rfl)
theorem sz44 : sizeT Tryd.prog 44 = 1 := by kernel_rfl
theorem agg44 : aggT Tryd.prog 44 = some false := by kernel_rfl
theorem zero44 : zeroV Tryd.prog 44 = some (.nilf) := by kernel_rfl
theorem by44 : bytesT Tryd.prog 44 ≤ 1024 := of_decide_eq_true (by kernel_rfl)
theorem sz45 : sizeT Tryd.prog 45 = 1 := by kernel_rfl
theorem agg45 : aggT Tryd.prog 45 = some false := by kernel_rfl
theorem zero45 : zeroV Tryd.prog 45 = some (.nilf) := by kernel_rfl
theorem by45 : bytesT Tryd.prog 45 ≤ 1024 := of_decide_eq_true (by kernel_rfl)
theorem sz46 : sizeT Tryd.prog 46 = 1 := by kernel_rfl
theorem agg46 : aggT Tryd.prog 46 = some false := by kernel_rfl
theorem zero46 : zeroV Tryd.prog 46 = some (.nilf) := by kernel_rfl
theorem by46 : bytesT Tryd.prog 46 ≤ 1024 := of_decide_eq_true (by kernel_rfl)
theorem sz48 : sizeT Tryd.prog 48 = 1 := by kernel_rfl
theorem agg48 : aggT Tryd.prog 48 = some false := by kernel_rfl
theorem zero48 : zeroV Tryd.prog 48 = some (.nilf) := by kernel_rfl
theorem by48 : bytesT Tryd.prog 48 ≤ 1024 := of_decide_eq_true (by kernel_rfl)
theorem sz49 : sizeT Tryd.prog 49 = 1 := by kernel_rfl
theorem agg49 : aggT Tryd.prog 49 = some false := by kernel_rfl
theorem zero49 : zeroV Tryd.prog 49 = some (.nilf) := by kernel_rfl
theorem by49 : bytesT Tryd.prog 49 ≤ 1024 := of_decide_eq_true (by kernel_rfl)
theorem sz50 : sizeT Tryd.prog 50 = 1 := by kernel_rfl
theorem agg50 : aggT Tryd.prog 50 = some false := by kernel_rfl
theorem zero50 : zeroV Tryd.prog 50 = some (.nilf) := by kernel_rfl
theorem by50 : bytesT Tryd.prog 50 ≤ 1024 := of_decide_eq_true (by kernel_rfl)
theorem sz51 : sizeT Tryd.prog 51 = 1 := by kernel_rfl
theorem agg51 : aggT Tryd.prog 51 = some false := by kernel_rfl
theorem zero51 : zeroV Tryd.prog 51 = some (.nilf) := by kernel_rfl
theorem by51 : bytesT Tryd.prog 51 ≤ 1024 := of_decide_eq_true (by kernel_rfl)
theorem sz52 : sizeT Tryd.prog 52 = 1 := by kernel_rfl
theorem agg52 : aggT Tryd.prog 52 = some false := by kernel_rfl
theorem zero52 : zeroV Tryd.prog 52 = some (.nilf) := by kernel_rfl
theorem by52 : bytesT Tryd.prog 52 ≤ 1024 := of_decide_eq_true (by kernel_rfl)
theorem sz53 : sizeT Tryd.prog 53 = 1 := by kernel_rfl
theorem agg53 : aggT Tryd.prog 53 = some false := by kernel_rfl
theorem zero53 : zeroV Tryd.prog 53 = some (.nilp) := by kernel_rfl
theorem by53 : bytesT Tryd.prog 53 ≤ 1024 := of_decide_eq_true (by kernel_rfl)
theorem sz55 : sizeT Tryd.prog 55 = 1 := by kernel_rfl
theorem agg55 : aggT Tryd.prog 55 = some false := by kernel_rfl
theorem zero55 : zeroV Tryd.prog 55 = some (.nilf) := by kernel_rfl
theorem by55 : bytesT Tryd.prog 55 ≤ 1024 := of_decide_eq_true (by kernel_rfl)
theorem sz57 : sizeT Tryd.prog 57 = 1 := by kernel_rfl
theorem agg57 : aggT Tryd.prog 57 = some false := by kernel_rfl
theorem zero57 : zeroV Tryd.prog 57 = some (.nilf) := by kernel_rfl
theorem by57 : bytesT Tryd.prog 57 ≤ 1024 := of_decide_eq_true (by kernel_rfl)
theorem sz58 : sizeT Tryd.prog 58 = 1 := by kernel_rfl
theorem agg58 : aggT Tryd.prog 58 = some false := by kernel_rfl
theorem zero58 : zeroV Tryd.prog 58 = some (.int .u64 0) := by kernel_rfl
theorem by58 : bytesT Tryd.prog 58 ≤ 1024 := of_decide_eq_true (by kernel_rfl)
theorem sz59 : sizeT Tryd.prog 59 = 10 := by kernel_rfl
theorem agg59 : aggT Tryd.prog 59 = some true := by kernel_rfl
theorem zero59 : zeroV Tryd.prog 59 = some (.agg [.nils, .int .i64 0, .int .i64 0, .int .i64 0, .fl .f64 0, .int .u64 0, .int .u64 0, .bool false, .int .i64 0, .int .i64 0]) := by kernel_rfl
theorem by59 : bytesT Tryd.prog 59 ≤ 1024 := of_decide_eq_true (by kernel_rfl)
theorem bld59 (ps : List (Nat × V)) : build Tryd.prog 59 ps = (fillV (fun i => [(0, 1), (1, 1), (2, 1), (3, 2), (5, 1), (6, 1), (7, 1), (8, 1), (9, 1)][i]?) [.nils, .int .i64 0, .int .i64 0, .int .i64 0, .fl .f64 0, .int .u64 0, .int .u64 0, .bool false, .int .i64 0, .int .i64 0] ps).map .agg := by kernel_rfl
theorem sz60 : sizeT Tryd.prog 60 = 10 := by kernel_rfl
theorem agg60 : aggT Tryd.prog 60 = some true := by kernel_rfl
theorem zero60 : zeroV Tryd.prog 60 = some (.agg [.nils, .int .i64 0, .int .i64 0, .int .i64 0, .fl .f64 0, .int .u64 0, .int .u64 0, .bool false, .int .i64 0, .int .i64 0]) := by kernel_rfl
theorem by60 : bytesT Tryd.prog 60 ≤ 1024 := of_decide_eq_true (by kernel_rfl)
theorem bld60 (ps : List (Nat × V)) : build Tryd.prog 60 ps = (fillV (fun i => [(0, 1), (1, 1), (2, 1), (3, 2), (5, 1), (6, 1), (7, 1), (8, 1), (9, 1)][i]?) [.nils, .int .i64 0, .int .i64 0, .int .i64 0, .fl .f64 0, .int .u64 0, .int .u64 0, .bool false, .int .i64 0, .int .i64 0] ps).map .agg := by kernel_rfl
theorem sz61 : sizeT Tryd.prog 61 = 1 := by kernel_rfl
theorem agg61 : aggT Tryd.prog 61 = some false := by kernel_rfl
theorem zero61 : zeroV Tryd.prog 61 = some (.int .u64 0) := by kernel_rfl
theorem by61 : bytesT Tryd.prog 61 ≤ 1024 := of_decide_eq_true (by kernel_rfl)
theorem sz62 : sizeT Tryd.prog 62 = 1 := by kernel_rfl
theorem agg62 : aggT Tryd.prog 62 = some false := by kernel_rfl
theorem zero62 : zeroV Tryd.prog 62 = some (.nilp) := by kernel_rfl
theorem by62 : bytesT Tryd.prog 62 ≤ 1024 := of_decide_eq_true (by kernel_rfl)
theorem sz63 : sizeT Tryd.prog 63 = 6 := by kernel_rfl
theorem agg63 : aggT Tryd.prog 63 = some true := by kernel_rfl
theorem zero63 : zeroV Tryd.prog 63 = some (.agg [.nils, .int .i64 0, .bool false, .bool false, .int .i64 0, .int .i64 0]) := by kernel_rfl
theorem by63 : bytesT Tryd.prog 63 ≤ 1024 := of_decide_eq_true (by kernel_rfl)
theorem bld63 (ps : List (Nat × V)) : build Tryd.prog 63 ps = (fillV (fun i => [(0, 1), (1, 1), (2, 1), (3, 1), (4, 1), (5, 1)][i]?) [.nils, .int .i64 0, .bool false, .bool false, .int .i64 0, .int .i64 0] ps).map .agg := by kernel_rfl
theorem sz64 : sizeT Tryd.prog 64 = 6 := by kernel_rfl
theorem agg64 : aggT Tryd.prog 64 = some true := by kernel_rfl
theorem zero64 : zeroV Tryd.prog 64 = some (.agg [.nils, .int .i64 0, .bool false, .bool false, .int .i64 0, .int .i64 0]) := by kernel_rfl
theorem by64 : bytesT Tryd.prog 64 ≤ 1024 := of_decide_eq_true (by kernel_rfl)
theorem bld64 (ps : List (Nat × V)) : build Tryd.prog 64 ps = (fillV (fun i => [(0, 1), (1, 1), (2, 1), (3, 1), (4, 1), (5, 1)][i]?) [.nils, .int .i64 0, .bool false, .bool false, .int .i64 0, .int .i64 0] ps).map .agg := by kernel_rfl
theorem sz65 : sizeT Tryd.prog 65 = 1 := by kernel_rfl
theorem agg65 : aggT Tryd.prog 65 = some false := by kernel_rfl
theorem zero65 : zeroV Tryd.prog 65 = some (.nilf) := by kernel_rfl
theorem by65 : bytesT Tryd.prog 65 ≤ 1024 := of_decide_eq_true (by kernel_rfl)
theorem sz66 : sizeT Tryd.prog 66 = 1 := by kernel_rfl
theorem agg66 : aggT Tryd.prog 66 = some false := by kernel_rfl
theorem zero66 : zeroV Tryd.prog 66 = some (.nilf) := by kernel_rfl
theorem by66 : bytesT Tryd.prog 66 ≤ 1024 := of_decide_eq_true (by kernel_rfl)
theorem sz67 : sizeT Tryd.prog 67 = 1 := by kernel_rfl
theorem agg67 : aggT Tryd.prog 67 = some false := by kernel_rfl
theorem zero67 : zeroV Tryd.prog 67 = some (.nilf) := by kernel_rfl
theorem by67 : bytesT Tryd.prog 67 ≤ 1024 := of_decide_eq_true (by kernel_rfl)
theorem sz68 : sizeT Tryd.prog 68 = 1 := by kernel_rfl
theorem agg68 : aggT Tryd.prog 68 = some false := by kernel_rfl
theorem zero68 : zeroV Tryd.prog 68 = some (.nilf) := by kernel_rfl
theorem by68 : bytesT Tryd.prog 68 ≤ 1024 := of_decide_eq_true (by kernel_rfl)
theorem sz69 : sizeT Tryd.prog 69 = 1 := by kernel_rfl
theorem agg69 : aggT Tryd.prog 69 = some false := by kernel_rfl
theorem zero69 : zeroV Tryd.prog 69 = some (.nilp) := by kernel_rfl
theorem by69 : bytesT Tryd.prog 69 ≤ 1024 := of_decide_eq_true (by kernel_rfl)
theorem sz70 : sizeT Tryd.prog 70 = 3 := by kernel_rfl
theorem agg70 : aggT Tryd.prog 70 = some true := by kernel_rfl
theorem zero70 : zeroV Tryd.prog 70 = some (.agg [.nils, .int .i64 0, .bool false]) := by kernel_rfl
theorem by70 : bytesT Tryd.prog 70 ≤ 1024 := of_decide_eq_true (by kernel_rfl)
theorem bld70 (ps : List (Nat × V)) : build Tryd.prog 70 ps = (fillV (fun i => [(0, 1), (1, 1), (2, 1)][i]?) [.nils, .int .i64 0, .bool false] ps).map .agg := by kernel_rfl
theorem sz71 : sizeT Tryd.prog 71 = 3 := by kernel_rfl
theorem agg71 : aggT Tryd.prog 71 = some true := by kernel_rfl
theorem zero71 : zeroV Tryd.prog 71 = some (.agg [.nils, .int .i64 0, .bool false]) := by kernel_rfl
theorem by71 : bytesT Tryd.prog 71 ≤ 1024 := of_decide_eq_true (by kernel_rfl)
theorem bld71 (ps : List (Nat × V)) : build Tryd.prog 71 ps = (fillV (fun i => [(0, 1), (1, 1), (2, 1)][i]?) [.nils, .int .i64 0, .bool false] ps).map .agg := by kernel_rfl
theorem sz72 : sizeT Tryd.prog 72 = 1 := by kernel_rfl
theorem agg72 : aggT Tryd.prog 72 = some false := by kernel_rfl
theorem zero72 : zeroV Tryd.prog 72 = some (.nilf) := by kernel_rfl
theorem by72 : bytesT Tryd.prog 72 ≤ 1024 := of_decide_eq_true (by kernel_rfl)
theorem sz73 : sizeT Tryd.prog 73 = 3 := by kernel_rfl
theorem agg73 : aggT Tryd.prog 73 = some true := by kernel_rfl
theorem zero73 : zeroV Tryd.prog 73 = some (.agg [.bool false, .int .i64 0, .int .i64 0]) := by kernel_rfl
theorem by73 : bytesT Tryd.prog 73 ≤ 1024 := of_decide_eq_true (by kernel_rfl)
theorem bld73 (ps : List (Nat × V)) : build Tryd.prog 73 ps = (fillV (fun i => [(0, 1), (1, 1), (2, 1)][i]?) [.bool false, .int .i64 0, .int .i64 0] ps).map .agg := by kernel_rfl
theorem sz74 : sizeT Tryd.prog 74 = 3 := by kernel_rfl
theorem agg74 : aggT Tryd.prog 74 = some true := by kernel_rfl
theorem zero74 : zeroV Tryd.prog 74 = some (.agg [.bool false, .int .i64 0, .int .i64 0]) := by kernel_rfl
theorem by74 : bytesT Tryd.prog 74 ≤ 1024 := of_decide_eq_true (by kernel_rfl)
theorem bld74 (ps : List (Nat × V)) : build Tryd.prog 74 ps = (fillV (fun i => [(0, 1), (1, 1), (2, 1)][i]?) [.bool false, .int .i64 0, .int .i64 0] ps).map .agg := by kernel_rfl
theorem sz76 : sizeT Tryd.prog 76 = 1 := by kernel_rfl
theorem agg76 : aggT Tryd.prog 76 = some false := by kernel_rfl
theorem zero76 : zeroV Tryd.prog 76 = some (.nilf) := by kernel_rfl
theorem by76 : bytesT Tryd.prog 76 ≤ 1024 := of_decide_eq_true (by kernel_rfl)
theorem sz77 : sizeT Tryd.prog 77 = 1 := by kernel_rfl
theorem agg77 : aggT Tryd.prog 77 = some false := by kernel_rfl
theorem zero77 : zeroV Tryd.prog 77 = some (.nilf) := by kernel_rfl
theorem by77 : bytesT Tryd.prog 77 ≤ 1024 := of_decide_eq_true (by kernel_rfl)
theorem sz78 : sizeT Tryd.prog 78 = 1 := by kernel_rfl
theorem agg78 : aggT Tryd.prog 78 = some false := by kernel_rfl
theorem zero78 : zeroV Tryd.prog 78 = some (.nilf) := by kernel_rfl
theorem by78 : bytesT Tryd.prog 78 ≤ 1024 := of_decide_eq_true (by kernel_rfl)
theorem sz79 : sizeT Tryd.prog 79 = 1 := by kernel_rfl
theorem agg79 : aggT Tryd.prog 79 = some false := by kernel_rfl
theorem zero79 : zeroV Tryd.prog 79 = some (.nilf) := by kernel_rfl
theorem by79 : bytesT Tryd.prog 79 ≤ 1024 := of_decide_eq_true (by kernel_rfl)
theorem sz80 : sizeT Tryd.prog 80 = 1 := by kernel_rfl
theorem agg80 : aggT Tryd.prog 80 = some false := by kernel_rfl
theorem zero80 : zeroV Tryd.prog 80 = some (.nilf) := by kernel_rfl
theorem by80 : bytesT Tryd.prog 80 ≤ 1024 := of_decide_eq_true (by kernel_rfl)
theorem sz82 : sizeT Tryd.prog 82 = 1 := by kernel_rfl
theorem agg82 : aggT Tryd.prog 82 = some false := by kernel_rfl
theorem zero82 : zeroV Tryd.prog 82 = some (.nilf) := by kernel_rfl
theorem by82 : bytesT Tryd.prog 82 ≤ 1024 := of_decide_eq_true (by kernel_rfl)
theorem sz83 : sizeT Tryd.prog 83 = 1 := by kernel_rfl
theorem agg83 : aggT Tryd.prog 83 = some false := by kernel_rfl
theorem zero83 : zeroV Tryd.prog 83 = some (.nilf) := by kernel_rfl
theorem by83 : bytesT Tryd.prog 83 ≤ 1024 := of_decide_eq_true (by kernel_rfl)
theorem sz84 : sizeT Tryd.prog 84 = 11 := by kernel_rfl
theorem agg84 : aggT Tryd.prog 84 = some true := by kernel_rfl
theorem zero84 : zeroV Tryd.prog 84 = some (.agg [.nils, .int .i64 0, .int .i64 0, .int .i64 0, .fl .f64 0, .int .u64 0, .int .u64 0, .bool false, .int .i64 0, .int .i64 0, .nils]) := by kernel_rfl
theorem by84 : bytesT Tryd.prog 84 ≤ 1024 := of_decide_eq_true (by kernel_rfl)
theorem bld84 (ps : List (Nat × V)) : build Tryd.prog 84 ps = (fillV (fun i => [(0, 10), (10, 1)][i]?) [.nils, .int .i64 0, .int .i64 0, .int .i64 0, .fl .f64 0, .int .u64 0, .int .u64 0, .bool false, .int .i64 0, .int .i64 0, .nils] ps).map .agg := by kernel_rfl
theorem sz85 : sizeT Tryd.prog 85 = 11 := by kernel_rfl
theorem agg85 : aggT Tryd.prog 85 = some true := by kernel_rfl
theorem zero85 : zeroV Tryd.prog 85 = some (.agg [.nils, .int .i64 0, .int .i64 0, .int .i64 0, .fl .f64 0, .int .u64 0, .int .u64 0, .bool false, .int .i64 0, .int .i64 0, .nils]) := by kernel_rfl
theorem by85 : bytesT Tryd.prog 85 ≤ 1024 := of_decide_eq_true (by kernel_rfl)
theorem bld85 (ps : List (Nat × V)) : build Tryd.prog 85 ps = (fillV (fun i => [(0, 10), (10, 1)][i]?) [.nils, .int .i64 0, .int .i64 0, .int .i64 0, .fl .f64 0, .int .u64 0, .int .u64 0, .bool false, .int .i64 0, .int .i64 0, .nils] ps).map .agg := by kernel_rfl
theorem sz86 : sizeT Tryd.prog 86 = 1 := by kernel_rfl
theorem agg86 : aggT Tryd.prog 86 = some false := by kernel_rfl
theorem zero86 : zeroV Tryd.prog 86 = some (.nilf) := by kernel_rfl
theorem by86 : bytesT Tryd.prog 86 ≤ 1024 := of_decide_eq_true (by kernel_rfl)
theorem sz87 : sizeT Tryd.prog 87 = 1 := by kernel_rfl
theorem agg87 : aggT Tryd.prog 87 = some false := by kernel_rfl
theorem zero87 : zeroV Tryd.prog 87 = some (.nilf) := by kernel_rfl
theorem by87 : bytesT Tryd.prog 87 ≤ 1024 := of_decide_eq_true (by kernel_rfl)
theorem sz88 : sizeT Tryd.prog 88 = 1 := by kernel_rfl
theorem agg88 : aggT Tryd.prog 88 = some false := by kernel_rfl
theorem zero88 : zeroV Tryd.prog 88 = some (.nilf) := by kernel_rfl
theorem by88 : bytesT Tryd.prog 88 ≤ 1024 := of_decide_eq_true (by kernel_rfl)
theorem sz89 : sizeT Tryd.prog 89 = 3 := by kernel_rfl
theorem agg89 : aggT Tryd.prog 89 = some true := by kernel_rfl
theorem zero89 : zeroV Tryd.prog 89 = some (.agg [.int .u64 0, .int .i64 0, .int .i64 0]) := by kernel_rfl
theorem by89 : bytesT Tryd.prog 89 ≤ 1024 := of_decide_eq_true (by kernel_rfl)
theorem bld89 (ps : List (Nat × V)) : build Tryd.prog 89 ps = (fillV (fun i => [(0, 1), (1, 1), (2, 1)][i]?) [.int .u64 0, .int .i64 0, .int .i64 0] ps).map .agg := by kernel_rfl
theorem sz90 : sizeT Tryd.prog 90 = 9 := by kernel_rfl
theorem agg90 : aggT Tryd.prog 90 = some true := by kernel_rfl
theorem zero90 : zeroV Tryd.prog 90 = some (.agg [.int .u64 0, .int .i64 0, .int .i64 0, .int .u64 0, .int .i64 0, .int .i64 0, .int .u64 0, .int .i64 0, .int .i64 0]) := by kernel_rfl
theorem by90 : bytesT Tryd.prog 90 ≤ 1024 := of_decide_eq_true (by kernel_rfl)
theorem bld90 (ps : List (Nat × V)) : build Tryd.prog 90 ps = (fillV (fun i => some (i * 3, 3)) [.int .u64 0, .int .i64 0, .int .i64 0, .int .u64 0, .int .i64 0, .int .i64 0, .int .u64 0, .int .i64 0, .int .i64 0] ps).map .agg := by kernel_rfl
theorem sz91 : sizeT Tryd.prog 91 = 1 := by kernel_rfl
theorem agg91 : aggT Tryd.prog 91 = some false := by kernel_rfl
theorem zero91 : zeroV Tryd.prog 91 = some (.nils) := by kernel_rfl
theorem by91 : bytesT Tryd.prog 91 ≤ 1024 := of_decide_eq_true (by kernel_rfl)
theorem elem91 : elemT Tryd.prog 91 = 1 := by kernel_rfl
theorem sz92 : sizeT Tryd.prog 92 = 1 := by kernel_rfl
theorem agg92 : aggT Tryd.prog 92 = some false := by kernel_rfl
theorem zero92 : zeroV Tryd.prog 92 = some (.nilf) := by kernel_rfl
theorem by92 : bytesT Tryd.prog 92 ≤ 1024 := of_decide_eq_true (by kernel_rfl)
theorem sz93 : sizeT Tryd.prog 93 = 1 := by kernel_rfl
theorem agg93 : aggT Tryd.prog 93 = some false := by kernel_rfl
theorem zero93 : zeroV Tryd.prog 93 = some (.nils) := by kernel_rfl
theorem by93 : bytesT Tryd.prog 93 ≤ 1024 := of_decide_eq_true (by kernel_rfl)
theorem elem93 : elemT Tryd.prog 93 = 1 := by kernel_rfl
theorem sz95 : sizeT Tryd.prog 95 = 1 := by kernel_rfl
theorem agg95 : aggT Tryd.prog 95 = some false := by kernel_rfl
theorem zero95 : zeroV Tryd.prog 95 = some (.nilf) := by kernel_rfl
theorem by95 : bytesT Tryd.prog 95 ≤ 1024 := of_decide_eq_true (by kernel_rfl)
theorem sz96 : sizeT Tryd.prog 96 = 1 := by kernel_rfl
theorem agg96 : aggT Tryd.prog 96 = some false := by kernel_rfl
theorem zero96 : zeroV Tryd.prog 96 = some (.nilf) := by kernel_rfl
theorem by96 : bytesT Tryd.prog 96 ≤ 1024 := of_decide_eq_true (by kernel_rfl)
theorem sz97 : sizeT Tryd.prog 97 = 1 := by kernel_rfl
theorem agg97 : aggT Tryd.prog 97 = some false := by kernel_rfl
theorem zero97 : zeroV Tryd.prog 97 = some (.nilf) := by kernel_rfl
theorem by97 : bytesT Tryd.prog 97 ≤ 1024 := of_decide_eq_true (by kernel_rfl)
theorem sz98 : sizeT Tryd.prog 98 = 1 := by kernel_rfl
theorem agg98 : aggT Tryd.prog 98 = some false := by kernel_rfl
theorem zero98 : zeroV Tryd.prog 98 = some (.nilf) := by kernel_rfl
theorem by98 : bytesT Tryd.prog 98 ≤ 1024 := of_decide_eq_true (by kernel_rfl)
theorem sz99 : sizeT Tryd.prog 99 = 1 := by kernel_rfl
theorem agg99 : aggT Tryd.prog 99 = some false := by kernel_rfl
theorem zero99 : zeroV Tryd.prog 99 = some (.nilf) := by kernel_rfl
theorem by99 : bytesT Tryd.prog 99 ≤ 1024 := of_decide_eq_true (by kernel_rfl)
theorem sz101 : sizeT Tryd.prog 101 = 1 := by kernel_rfl
theorem agg101 : aggT Tryd.prog 101 = some false := by kernel_rfl
theorem zero101 : zeroV Tryd.prog 101 = some (.nilf) := by kernel_rfl
theorem by101 : bytesT Tryd.prog 101 ≤ 1024 := of_decide_eq_true (by kernel_rfl)
theorem sz102 : sizeT Tryd.prog 102 = 4 := by kernel_rfl
theorem agg102 : aggT Tryd.prog 102 = some true := by kernel_rfl
theorem zero102 : zeroV Tryd.prog 102 = some (.agg [.nilp, .nilp, .nilp, .str (bs [])]) := by kernel_rfl
theorem by102 : bytesT Tryd.prog 102 ≤ 1024 := of_decide_eq_true (by kernel_rfl)
theorem bld102 (ps : List (Nat × V)) : build Tryd.prog 102 ps = (fillV (fun i => [(0, 1), (1, 1), (2, 1), (3, 1)][i]?) [.nilp, .nilp, .nilp, .str (bs [])] ps).map .agg := by kernel_rfl
theorem sz103 : sizeT Tryd.prog 103 = 4 := by kernel_rfl
theorem agg103 : aggT Tryd.prog 103 = some true := by kernel_rfl
theorem zero103 : zeroV Tryd.prog 103 = some (.agg [.nilp, .nilp, .nilp, .str (bs [])]) := by kernel_rfl
theorem by103 : bytesT Tryd.prog 103 ≤ 1024 := of_decide_eq_true (by kernel_rfl)
theorem bld103 (ps : List (Nat × V)) : build Tryd.prog 103 ps = (fillV (fun i => [(0, 1), (1, 1), (2, 1), (3, 1)][i]?) [.nilp, .nilp, .nilp, .str (bs [])] ps).map .agg := by kernel_rfl
theorem sz107 : sizeT Tryd.prog 107 = 1 := by kernel_rfl
theorem agg107 : aggT Tryd.prog 107 = some false := by kernel_rfl
theorem zero107 : zeroV Tryd.prog 107 = some (.int .u32 0) := by kernel_rfl
theorem by107 : bytesT Tryd.prog 107 ≤ 1024 := of_decide_eq_true (by kernel_rfl)
theorem sz108 : sizeT Tryd.prog 108 = 1 := by kernel_rfl
theorem agg108 : aggT Tryd.prog 108 = some false := by kernel_rfl
theorem zero108 : zeroV Tryd.prog 108 = some (.int .u8 0) := by kernel_rfl
theorem by108 : bytesT Tryd.prog 108 ≤ 1024 := of_decide_eq_true (by kernel_rfl)
theorem sz109 : sizeT Tryd.prog 109 = 1 := by kernel_rfl
theorem agg109 : aggT Tryd.prog 109 = some false := by kernel_rfl
theorem zero109 : zeroV Tryd.prog 109 = some (.int .u8 0) := by kernel_rfl
theorem by109 : bytesT Tryd.prog 109 ≤ 1024 := of_decide_eq_true (by kernel_rfl)
theorem sz110 : sizeT Tryd.prog 110 = 1 := by kernel_rfl
theorem agg110 : aggT Tryd.prog 110 = some false := by kernel_rfl
theorem zero110 : zeroV Tryd.prog 110 = some (.nilf) := by kernel_rfl
theorem by110 : bytesT Tryd.prog 110 ≤ 1024 := of_decide_eq_true (by kernel_rfl)
theorem sz111 : sizeT Tryd.prog 111 = 1 := by kernel_rfl
theorem agg111 : aggT Tryd.prog 111 = some false := by kernel_rfl
theorem zero111 : zeroV Tryd.prog 111 = some (.nilp) := by kernel_rfl
theorem by111 : bytesT Tryd.prog 111 ≤ 1024 := of_decide_eq_true (by kernel_rfl)
theorem sz112 : sizeT Tryd.prog 112 = 1 := by kernel_rfl
theorem agg112 : aggT Tryd.prog 112 = some false := by kernel_rfl
theorem zero112 : zeroV Tryd.prog 112 = some (.int .i32 0) := by kernel_rfl
theorem by112 : bytesT Tryd.prog 112 ≤ 1024 := of_decide_eq_true (by kernel_rfl)
theorem sz113 : sizeT Tryd.prog 113 = 1 := by kernel_rfl
theorem agg113 : aggT Tryd.prog 113 = some false := by kernel_rfl
theorem zero113 : zeroV Tryd.prog 113 = some (.int .i32 0) := by kernel_rfl
theorem by113 : bytesT Tryd.prog 113 ≤ 1024 := of_decide_eq_true (by kernel_rfl)
theorem sz114 : sizeT Tryd.prog 114 = 11 := by kernel_rfl
theorem agg114 : aggT Tryd.prog 114 = some true := by kernel_rfl
theorem zero114 : zeroV Tryd.prog 114 = some (.agg [.int .u64 0, .int .u64 0, .int .u32 0, .int .u8 0, .int .u8 0, .int .u8 0, .int .u8 0, .nilf, .nilp, .int .i32 0, .int .i32 0]) := by kernel_rfl
theorem by114 : bytesT Tryd.prog 114 ≤ 1024 := of_decide_eq_true (by kernel_rfl)
theorem bld114 (ps : List (Nat × V)) : build Tryd.prog 114 ps = (fillV (fun i => [(0, 1), (1, 1), (2, 1), (3, 1), (4, 1), (5, 1), (6, 1), (7, 1), (8, 1), (9, 1), (10, 1)][i]?) [.int .u64 0, .int .u64 0, .int .u32 0, .int .u8 0, .int .u8 0, .int .u8 0, .int .u8 0, .nilf, .nilp, .int .i32 0, .int .i32 0] ps).map .agg := by kernel_rfl
theorem sz115 : sizeT Tryd.prog 115 = 11 := by kernel_rfl
theorem agg115 : aggT Tryd.prog 115 = some true := by kernel_rfl
theorem zero115 : zeroV Tryd.prog 115 = some (.agg [.int .u64 0, .int .u64 0, .int .u32 0, .int .u8 0, .int .u8 0, .int .u8 0, .int .u8 0, .nilf, .nilp, .int .i32 0, .int .i32 0]) := by kernel_rfl
theorem by115 : bytesT Tryd.prog 115 ≤ 1024 := of_decide_eq_true (by kernel_rfl)
theorem bld115 (ps : List (Nat × V)) : build Tryd.prog 115 ps = (fillV (fun i => [(0, 1), (1, 1), (2, 1), (3, 1), (4, 1), (5, 1), (6, 1), (7, 1), (8, 1), (9, 1), (10, 1)][i]?) [.int .u64 0, .int .u64 0, .int .u32 0, .int .u8 0, .int .u8 0, .int .u8 0, .int .u8 0, .nilf, .nilp, .int .i32 0, .int .i32 0] ps).map .agg := by kernel_rfl
theorem el1 : elOk Tryd.prog 1 = true := by kernel_rfl
theorem el2 : elOk Tryd.prog 2 = true := by kernel_rfl
theorem el3 : elOk Tryd.prog 3 = true := by kernel_rfl
theorem el4 : elOk Tryd.prog 4 = true := by kernel_rfl
theorem el5 : elOk Tryd.prog 5 = true := by kernel_rfl
theorem el6 : elOk Tryd.prog 6 = true := by kernel_rfl
theorem el7 : elOk Tryd.prog 7 = true := by kernel_rfl
theorem el8 : elOk Tryd.prog 8 = true := by kernel_rfl
theorem el9 : elOk Tryd.prog 9 = true := by kernel_rfl
theorem el10 : elOk Tryd.prog 10 = true := by kernel_rfl
theorem el11 : elOk Tryd.prog 11 = true := by kernel_rfl
theorem el12 : elOk Tryd.prog 12 = true := by kernel_rfl
theorem el13 : elOk Tryd.prog 13 = true := by kernel_rfl
theorem el14 : elOk Tryd.prog 14 = true := by kernel_rfl
theorem el15 : elOk Tryd.prog 15 = true := by kernel_rfl
theorem el16 : elOk Tryd.prog 16 = true := by kernel_rfl
theorem el17 : elOk Tryd.prog 17 = true := by kernel_rfl
theorem el18 : elOk Tryd.prog 18 = true := by kernel_rfl
theorem el19 : elOk Tryd.prog 19 = true := by kernel_rfl
theorem el20 : elOk Tryd.prog 20 = true := by kernel_rfl
theorem el21 : elOk Tryd.prog 21 = true := by kernel_rfl
theorem el22 : elOk Tryd.prog 22 = true := by kernel_rfl
theorem el23 : elOk Tryd.prog 23 = true := by kernel_rfl
theorem el24 : elOk Tryd.prog 24 = true := by kernel_rfl
theorem el26 : elOk Tryd.prog 26 = true := by kernel_rfl
theorem el28 : elOk Tryd.prog 28 = true := by kernel_rfl
theorem el30 : elOk Tryd.prog 30 = true := by kernel_rfl
theorem el31 : elOk Tryd.prog 31 = true := by kernel_rfl
theorem el32 : elOk Tryd.prog 32 = true := by kernel_rfl
theorem el33 : elOk Tryd.prog 33 = true := by kernel_rfl
theorem el34 : elOk Tryd.prog 34 = true := by kernel_rfl
theorem el35 : elOk Tryd.prog 35 = true := by kernel_rfl
theorem el36 : elOk Tryd.prog 36 = true := by kernel_rfl
theorem el37 : elOk Tryd.prog 37 = true := by kernel_rfl
theorem el38 : elOk Tryd.prog 38 = true := by kernel_rfl
theorem el39 : elOk Tryd.prog 39 = true := by kernel_rfl
theorem el40 : elOk Tryd.prog 40 = true := by kernel_rfl
theorem el41 : elOk Tryd.prog 41 = true := by kernel_rfl
theorem el42 : elOk Tryd.prog 42 = true := by kernel_rfl
theorem el43 : elOk Tryd.prog 43 = true := by kernel_rfl
theorem el44 : elOk Tryd.prog 44 = true := by kernel_rfl
theorem el45 : elOk Tryd.prog 45 = true := by kernel_rfl
theorem el46 : elOk Tryd.prog 46 = true := by kernel_rfl
theorem el48 : elOk Tryd.prog 48 = true := by kernel_rfl
theorem el49 : elOk Tryd.prog 49 = true := by kernel_rfl
theorem el50 : elOk Tryd.prog 50 = true := by kernel_rfl
theorem el51 : elOk Tryd.prog 51 = true := by kernel_rfl
theorem el52 : elOk Tryd.prog 52 = true := by kernel_rfl
theorem el53 : elOk Tryd.prog 53 = true := by kernel_rfl
theorem el55 : elOk Tryd.prog 55 = true := by kernel_rfl
theorem el57 : elOk Tryd.prog 57 = true := by kernel_rfl
theorem el58 : elOk Tryd.prog 58 = true := by kernel_rfl
theorem el59 : elOk Tryd.prog 59 = true := by kernel_rfl
theorem el60 : elOk Tryd.prog 60 = true := by kernel_rfl
theorem el61 : elOk Tryd.prog 61 = true := by kernel_rfl
theorem el62 : elOk Tryd.prog 62 = true := by kernel_rfl
theorem el63 : elOk Tryd.prog 63 = true := by kernel_rfl
theorem el64 : elOk Tryd.prog 64 = true := by kernel_rfl
theorem el65 : elOk Tryd.prog 65 = true := by kernel_rfl
theorem el66 : elOk Tryd.prog 66 = true := by kernel_rfl
theorem el67 : elOk Tryd.prog 67 = true := by kernel_rfl
theorem el68 : elOk Tryd.prog 68 = true := by kernel_rfl
theorem el69 : elOk Tryd.prog 69 = true := by kernel_rfl
theorem el70 : elOk Tryd.prog 70 = true := by kernel_rfl
theorem el71 : elOk Tryd.prog 71 = true := by kernel_rfl
theorem el72 : elOk Tryd.prog 72 = true := by kernel_rfl
theorem el73 : elOk Tryd.prog 73 = true := by kernel_rfl
theorem el74 : elOk Tryd.prog 74 = true := by kernel_rfl
theorem el76 : elOk Tryd.prog 76 = true := by kernel_rfl
theorem el77 : elOk Tryd.prog 77 = true := by kernel_rfl
theorem el78 : elOk Tryd.prog 78 = true := by kernel_rfl
theorem el79 : elOk Tryd.prog 79 = true := by kernel_rfl
theorem el80 : elOk Tryd.prog 80 = true := by kernel_rfl
theorem el82 : elOk Tryd.prog 82 = true := by kernel_rfl
theorem el83 : elOk Tryd.prog 83 = true := by kernel_rfl
theorem el84 : elOk Tryd.prog 84 = true := by kernel_rfl
theorem el85 : elOk Tryd.prog 85 = true := by kernel_rfl
theorem el86 : elOk Tryd.prog 86 = true := by kernel_rfl
theorem el87 : elOk Tryd.prog 87 = true := by kernel_rfl
theorem el88 : elOk Tryd.prog 88 = true := by kernel_rfl
theorem el89 : elOk Tryd.prog 89 = true := by kernel_rfl
theorem el90 : elOk Tryd.prog 90 = true := by kernel_rfl
theorem el91 : elOk Tryd.prog 91 = true := by kernel_rfl
theorem el92 : elOk Tryd.prog 92 = true := by kernel_rfl
theorem el93 : elOk Tryd.prog 93 = true := by kernel_rfl
theorem el95 : elOk Tryd.prog 95 = true := by kernel_rfl
theorem el96 : elOk Tryd.prog 96 = true := by kernel_rfl
theorem el97 : elOk Tryd.prog 97 = true := by kernel_rfl
theorem el98 : elOk Tryd.prog 98 = true := by kernel_rfl
theorem el99 : elOk Tryd.prog 99 = true := by kernel_rfl
theorem el101 : elOk Tryd.prog 101 = true := by kernel_rfl
theorem el102 : elOk Tryd.prog 102 = true := by kernel_rfl
theorem el103 : elOk Tryd.prog 103 = true := by kernel_rfl
theorem el107 : elOk Tryd.prog 107 = true := by kernel_rfl
theorem el108 : elOk Tryd.prog 108 = true := by kernel_rfl
theorem el109 : elOk Tryd.prog 109 = true := by kernel_rfl
theorem el110 : elOk Tryd.prog 110 = true := by kernel_rfl
theorem el111 : elOk Tryd.prog 111 = true := by kernel_rfl
theorem el112 : elOk Tryd.prog 112 = true := by kernel_rfl
theorem el113 : elOk Tryd.prog 113 = true := by kernel_rfl
theorem el114 : elOk Tryd.prog 114 = true := by kernel_rfl
theorem el115 : elOk Tryd.prog 115 = true := by kernel_rfl
def tys0 := (And.intro (And.intro (And.intro (And.intro (And.intro Tryd.underlying1 (And.intro sz1 agg1)) (And.intro zero1 (And.intro Tryd.underlying2 sz2))) (And.intro (And.intro agg2 (And.intro zero2 Tryd.underlying3)) (And.intro sz3 (And.intro agg3 zero3)))) (And.intro (And.intro (And.intro Tryd.underlying4 (And.intro sz4 agg4)) (And.intro zero4 (And.intro Tryd.underlying5 sz5))) (And.intro (And.intro agg5 (And.intro zero5 Tryd.underlying6)) (And.intro (And.intro sz6 agg6) (And.intro zero6 Tryd.underlying7))))) (And.intro (And.intro (And.intro (And.intro sz7 (And.intro agg7 zero7)) (And.intro bld7 (And.intro Tryd.underlying8 sz8))) (And.intro (And.intro agg8 (And.intro zero8 bld8)) (And.intro Tryd.underlying9 (And.intro sz9 agg9)))) (And.intro (And.intro (And.intro zero9 (And.intro Tryd.underlying10 sz10)) (And.intro agg10 (And.intro zero10 Tryd.underlying11))) (And.intro (And.intro sz11 (And.intro agg11 zero11)) (And.intro (And.intro Tryd.underlying12 sz12) (And.intro agg12 zero12))))))
def tys1 := (And.intro (And.intro (And.intro (And.intro (And.intro Tryd.underlying13 (And.intro sz13 agg13)) (And.intro zero13 (And.intro bld13 Tryd.underlying14))) (And.intro (And.intro sz14 (And.intro agg14 zero14)) (And.intro bld14 (And.intro Tryd.underlying15 sz15)))) (And.intro (And.intro (And.intro agg15 (And.intro zero15 Tryd.underlying16)) (And.intro sz16 (And.intro agg16 zero16))) (And.intro (And.intro Tryd.underlying17 (And.intro sz17 agg17)) (And.intro (And.intro zero17 Tryd.underlying18) (And.intro sz18 agg18))))) (And.intro (And.intro (And.intro (And.intro zero18 (And.intro bld18 Tryd.underlying19)) (And.intro sz19 (And.intro agg19 zero19))) (And.intro (And.intro bld19 (And.intro Tryd.underlying20 sz20)) (And.intro agg20 (And.intro zero20 Tryd.underlying21)))) (And.intro (And.intro (And.intro sz21 (And.intro agg21 zero21)) (And.intro Tryd.underlying22 (And.intro sz22 agg22))) (And.intro (And.intro zero22 (And.intro elem22 Tryd.underlying23)) (And.intro (And.intro sz23 agg23) (And.intro zero23 elem23))))))
def tys2 := (And.intro (And.intro (And.intro (And.intro (And.intro Tryd.underlying24 (And.intro sz24 agg24)) (And.intro zero24 (And.intro Tryd.underlying26 sz26))) (And.intro (And.intro agg26 (And.intro zero26 Tryd.underlying28)) (And.intro sz28 (And.intro agg28 zero28)))) (And.intro (And.intro (And.intro Tryd.underlying30 (And.intro sz30 agg30)) (And.intro zero30 (And.intro Tryd.underlying31 sz31))) (And.intro (And.intro agg31 (And.intro zero31 Tryd.underlying32)) (And.intro (And.intro sz32 agg32) (And.intro zero32 Tryd.underlying33))))) (And.intro (And.intro (And.intro (And.intro sz33 (And.intro agg33 zero33)) (And.intro Tryd.underlying34 (And.intro sz34 agg34))) (And.intro (And.intro zero34 (And.intro elem34 Tryd.underlying35)) (And.intro sz35 (And.intro agg35 zero35)))) (And.intro (And.intro (And.intro Tryd.underlying36 (And.intro sz36 agg36)) (And.intro zero36 (And.intro Tryd.underlying37 sz37))) (And.intro (And.intro agg37 (And.intro zero37 Tryd.underlying38)) (And.intro (And.intro sz38 agg38) (And.intro zero38 bld38))))))
def tys3 := (And.intro (And.intro (And.intro (And.intro (And.intro Tryd.underlying39 (And.intro sz39 agg39)) (And.intro zero39 (And.intro bld39 Tryd.underlying40))) (And.intro (And.intro sz40 (And.intro agg40 zero40)) (And.intro Tryd.underlying41 (And.intro sz41 agg41)))) (And.intro (And.intro (And.intro zero41 (And.intro elem41 Tryd.underlying42)) (And.intro sz42 (And.intro agg42 zero42))) (And.intro (And.intro Tryd.underlying43 (And.intro sz43 agg43)) (And.intro (And.intro zero43 Tryd.underlying44) (And.intro sz44 agg44))))) (And.intro (And.intro (And.intro (And.intro zero44 (And.intro Tryd.underlying45 sz45)) (And.intro agg45 (And.intro zero45 Tryd.underlying46))) (And.intro (And.intro sz46 (And.intro agg46 zero46)) (And.intro Tryd.underlying48 (And.intro sz48 agg48)))) (And.intro (And.intro (And.intro zero48 (And.intro Tryd.underlying49 sz49)) (And.intro agg49 (And.intro zero49 Tryd.underlying50))) (And.intro (And.intro sz50 (And.intro agg50 zero50)) (And.intro (And.intro Tryd.underlying51 sz51) (And.intro agg51 zero51))))))
def tys4 := (And.intro (And.intro (And.intro (And.intro (And.intro Tryd.underlying52 (And.intro sz52 agg52)) (And.intro zero52 (And.intro Tryd.underlying53 sz53))) (And.intro (And.intro agg53 (And.intro zero53 Tryd.underlying55)) (And.intro sz55 (And.intro agg55 zero55)))) (And.intro (And.intro (And.intro Tryd.underlying57 (And.intro sz57 agg57)) (And.intro zero57 (And.intro Tryd.underlying58 sz58))) (And.intro (And.intro agg58 (And.intro zero58 Tryd.underlying59)) (And.intro (And.intro sz59 agg59) (And.intro zero59 bld59))))) (And.intro (And.intro (And.intro (And.intro Tryd.underlying60 (And.intro sz60 agg60)) (And.intro zero60 (And.intro bld60 Tryd.underlying61))) (And.intro (And.intro sz61 (And.intro agg61 zero61)) (And.intro Tryd.underlying62 (And.intro sz62 agg62)))) (And.intro (And.intro (And.intro zero62 (And.intro Tryd.underlying63 sz63)) (And.intro agg63 (And.intro zero63 bld63))) (And.intro (And.intro Tryd.underlying64 (And.intro sz64 agg64)) (And.intro (And.intro zero64 bld64) (And.intro Tryd.underlying65 sz65))))))
def tys5 := (And.intro (And.intro (And.intro (And.intro (And.intro agg65 (And.intro zero65 Tryd.underlying66)) (And.intro sz66 (And.intro agg66 zero66))) (And.intro (And.intro Tryd.underlying67 (And.intro sz67 agg67)) (And.intro zero67 (And.intro Tryd.underlying68 sz68)))) (And.intro (And.intro (And.intro agg68 (And.intro zero68 Tryd.underlying69)) (And.intro sz69 (And.intro agg69 zero69))) (And.intro (And.intro Tryd.underlying70 (And.intro sz70 agg70)) (And.intro (And.intro zero70 bld70) (And.intro Tryd.underlying71 sz71))))) (And.intro (And.intro (And.intro (And.intro agg71 (And.intro zero71 bld71)) (And.intro Tryd.underlying72 (And.intro sz72 agg72))) (And.intro (And.intro zero72 (And.intro Tryd.underlying73 sz73)) (And.intro agg73 (And.intro zero73 bld73)))) (And.intro (And.intro (And.intro Tryd.underlying74 (And.intro sz74 agg74)) (And.intro zero74 (And.intro bld74 Tryd.underlying76))) (And.intro (And.intro sz76 (And.intro agg76 zero76)) (And.intro (And.intro Tryd.underlying77 sz77) (And.intro agg77 zero77))))))
def tys6 := (And.intro (And.intro (And.intro (And.intro (And.intro Tryd.underlying78 (And.intro sz78 agg78)) (And.intro zero78 (And.intro Tryd.underlying79 sz79))) (And.intro (And.intro agg79 (And.intro zero79 Tryd.underlying80)) (And.intro sz80 (And.intro agg80 zero80)))) (And.intro (And.intro (And.intro Tryd.underlying82 (And.intro sz82 agg82)) (And.intro zero82 (And.intro Tryd.underlying83 sz83))) (And.intro (And.intro agg83 (And.intro zero83 Tryd.underlying84)) (And.intro (And.intro sz84 agg84) (And.intro zero84 bld84))))) (And.intro (And.intro (And.intro (And.intro Tryd.underlying85 (And.intro sz85 agg85)) (And.intro zero85 (And.intro bld85 Tryd.underlying86))) (And.intro (And.intro sz86 (And.intro agg86 zero86)) (And.intro Tryd.underlying87 (And.intro sz87 agg87)))) (And.intro (And.intro (And.intro zero87 (And.intro Tryd.underlying88 sz88)) (And.intro agg88 (And.intro zero88 Tryd.underlying89))) (And.intro (And.intro sz89 (And.intro agg89 zero89)) (And.intro (And.intro bld89 Tryd.underlying90) (And.intro sz90 agg90))))))
def tys7 := (And.intro (And.intro (And.intro (And.intro (And.intro zero90 (And.intro bld90 Tryd.underlying91)) (And.intro sz91 (And.intro agg91 zero91))) (And.intro (And.intro elem91 (And.intro Tryd.underlying92 sz92)) (And.intro agg92 (And.intro zero92 Tryd.underlying93)))) (And.intro (And.intro (And.intro sz93 (And.intro agg93 zero93)) (And.intro elem93 (And.intro Tryd.underlying95 sz95))) (And.intro (And.intro agg95 (And.intro zero95 Tryd.underlying96)) (And.intro (And.intro sz96 agg96) (And.intro zero96 Tryd.underlying97))))) (And.intro (And.intro (And.intro (And.intro sz97 (And.intro agg97 zero97)) (And.intro Tryd.underlying98 (And.intro sz98 agg98))) (And.intro (And.intro zero98 (And.intro Tryd.underlying99 sz99)) (And.intro agg99 (And.intro zero99 Tryd.underlying100)))) (And.intro (And.intro (And.intro Tryd.underlying101 (And.intro sz101 agg101)) (And.intro zero101 (And.intro Tryd.underlying102 sz102))) (And.intro (And.intro agg102 (And.intro zero102 bld102)) (And.intro (And.intro Tryd.underlying103 sz103) (And.intro agg103 zero103))))))
def tys8 := (And.intro (And.intro (And.intro (And.intro (And.intro bld103 (And.intro Tryd.underlying104 Tryd.underlying105)) (And.intro Tryd.underlying106 (And.intro Tryd.underlying107 sz107))) (And.intro (And.intro agg107 (And.intro zero107 Tryd.underlying108)) (And.intro sz108 (And.intro agg108 zero108)))) (And.intro (And.intro (And.intro Tryd.underlying109 (And.intro sz109 agg109)) (And.intro zero109 (And.intro Tryd.underlying110 sz110))) (And.intro (And.intro agg110 (And.intro zero110 Tryd.underlying111)) (And.intro (And.intro sz111 agg111) (And.intro zero111 Tryd.underlying112))))) (And.intro (And.intro (And.intro (And.intro sz112 (And.intro agg112 zero112)) (And.intro Tryd.underlying113 (And.intro sz113 agg113))) (And.intro (And.intro zero113 (And.intro Tryd.underlying114 sz114)) (And.intro agg114 (And.intro zero114 bld114)))) (And.intro (And.intro (And.intro Tryd.underlying115 (And.intro sz115 agg115)) (And.intro zero115 (And.intro bld115 Tryd.underlying116))) (And.intro (And.intro el1 (And.intro el2 el3)) (And.intro (And.intro el4 el5) (And.intro el6 el7))))))
def tys9 := (And.intro (And.intro (And.intro (And.intro (And.intro el8 (And.intro el9 el10)) (And.intro el11 (And.intro el12 el13))) (And.intro (And.intro el14 (And.intro el15 el16)) (And.intro el17 (And.intro el18 el19)))) (And.intro (And.intro (And.intro el20 (And.intro el21 el22)) (And.intro el23 (And.intro el24 el26))) (And.intro (And.intro el28 (And.intro el30 el31)) (And.intro (And.intro el32 el33) (And.intro el34 el35))))) (And.intro (And.intro (And.intro (And.intro el36 (And.intro el37 el38)) (And.intro el39 (And.intro el40 el41))) (And.intro (And.intro el42 (And.intro el43 el44)) (And.intro el45 (And.intro el46 el48)))) (And.intro (And.intro (And.intro el49 (And.intro el50 el51)) (And.intro el52 (And.intro el53 el55))) (And.intro (And.intro el57 (And.intro el58 el59)) (And.intro (And.intro el60 el61) (And.intro el62 el63))))))
def tys10 := (And.intro (And.intro (And.intro (And.intro (And.intro el64 el65) (And.intro el66 (And.intro el67 el68))) (And.intro (And.intro el69 (And.intro el70 el71)) (And.intro el72 (And.intro el73 el74)))) (And.intro (And.intro (And.intro el76 el77) (And.intro el78 (And.intro el79 el80))) (And.intro (And.intro el82 (And.intro el83 el84)) (And.intro el85 (And.intro el86 el87))))) (And.intro (And.intro (And.intro (And.intro el88 el89) (And.intro el90 (And.intro el91 el92))) (And.intro (And.intro el93 (And.intro el95 el96)) (And.intro el97 (And.intro el98 el99)))) (And.intro (And.intro (And.intro el101 (And.intro el102 el103)) (And.intro el107 (And.intro el108 el109))) (And.intro (And.intro el110 (And.intro el111 el112)) (And.intro el113 (And.intro el114 el115))))))
def tys := (And.intro (And.intro (And.intro tys0 tys1) (And.intro tys2 (And.intro tys3 tys4))) (And.intro (And.intro tys5 (And.intro tys6 tys7)) (And.intro tys8 (And.intro tys9 tys10))))
end Go.Proofs.YtmjdcoacmmmhnaaDoor
