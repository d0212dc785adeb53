/-
Facts on the program's types.
-/
import Derived.Test.YtacnpljkcpomnaaEvBun
import Derived.Test.YtacnpljkcpomnaaProg
import Derived.KernelRfl
namespace Go.Proofs.Ytacnpljkcpomnaa
open Go Ev
set_option linter.all false
set_option linter.defProp false

theorem sz1 : sizeT Try.prog 1 = 1 := by kernel_rfl
theorem agg1 : aggT Try.prog 1 = some false := by kernel_rfl
theorem zero1 : zeroV Try.prog 1 = some (.nilf) := by kernel_rfl
theorem by1 : bytesT Try.prog 1 ≤ 1024 := of_decide_eq_true (by kernel_rfl)
theorem sz2 : sizeT Try.prog 2 = 1 := by kernel_rfl
theorem agg2 : aggT Try.prog 2 = some false := by kernel_rfl
theorem zero2 : zeroV Try.prog 2 = some (.int .i64 0) := by kernel_rfl
theorem by2 : bytesT Try.prog 2 ≤ 1024 := of_decide_eq_true (by kernel_rfl)
theorem sz3 : sizeT Try.prog 3 = 1 := by kernel_rfl
theorem agg3 : aggT Try.prog 3 = some false := by kernel_rfl
theorem zero3 : zeroV Try.prog 3 = some (.int .i64 0) := by kernel_rfl
theorem by3 : bytesT Try.prog 3 ≤ 1024 := of_decide_eq_true (by kernel_rfl)
theorem sz4 : sizeT Try.prog 4 = 1 := by kernel_rfl
theorem agg4 : aggT Try.prog 4 = some false := by kernel_rfl
theorem zero4 : zeroV Try.prog 4 = some (.bool false) := by kernel_rfl
theorem by4 : bytesT Try.prog 4 ≤ 1024 := of_decide_eq_true (by kernel_rfl)
theorem sz5 : sizeT Try.prog 5 = 1 := by kernel_rfl
theorem agg5 : aggT Try.prog 5 = some false := by kernel_rfl
theorem zero5 : zeroV Try.prog 5 = some (.int .u8 0) := by kernel_rfl
theorem by5 : bytesT Try.prog 5 ≤ 1024 := of_decide_eq_true (by kernel_rfl)
theorem sz6 : sizeT Try.prog 6 = 1 := by kernel_rfl
theorem agg6 : aggT Try.prog 6 = some false := by kernel_rfl
theorem zero6 : zeroV Try.prog 6 = some (.int .u8 0) := by kernel_rfl
theorem by6 : bytesT Try.prog 6 ≤ 1024 := of_decide_eq_true (by kernel_rfl)
theorem sz7 : sizeT Try.prog 7 = 4 := by kernel_rfl
theorem agg7 : aggT Try.prog 7 = some true := by kernel_rfl
theorem zero7 : zeroV Try.prog 7 = some (.agg [.int .i64 0, .int .i64 0, .bool false, .int .u8 0]) := by kernel_rfl
theorem by7 : bytesT Try.prog 7 ≤ 1024 := of_decide_eq_true (by kernel_rfl)
theorem bld7 (ps : List (Nat × V)) : build Try.prog 7 ps = (fillV (fun i => [(0, 1), (1, 1), (2, 1), (3, 1)][i]?) [.int .i64 0, .int .i64 0, .bool false, .int .u8 0] ps).map .agg := by kernel_rfl
theorem sz8 : sizeT Try.prog 8 = 4 := by kernel_rfl
theorem agg8 : aggT Try.prog 8 = some true := by kernel_rfl
theorem zero8 : zeroV Try.prog 8 = some (.agg [.int .i64 0, .int .i64 0, .bool false, .int .u8 0]) := by kernel_rfl
theorem by8 : bytesT Try.prog 8 ≤ 1024 := of_decide_eq_true (by kernel_rfl)
theorem bld8 (ps : List (Nat × V)) : build Try.prog 8 ps = (fillV (fun i => [(0, 1), (1, 1), (2, 1), (3, 1)][i]?) [.int .i64 0, .int .i64 0, .bool false, .int .u8 0] ps).map .agg := by kernel_rfl
theorem sz9 : sizeT Try.prog 9 = 1 := by kernel_rfl
theorem agg9 : aggT Try.prog 9 = some false := by kernel_rfl
theorem zero9 : zeroV Try.prog 9 = some (.str (bs [])) := by kernel_rfl
theorem by9 : bytesT Try.prog 9 ≤ 1024 := of_decide_eq_true (by kernel_rfl)
theorem sz10 : sizeT Try.prog 10 = 1 := by kernel_rfl
theorem agg10 : aggT Try.prog 10 = some false := by kernel_rfl
theorem zero10 : zeroV Try.prog 10 = some (.str (bs [])) := by kernel_rfl
theorem by10 : bytesT Try.prog 10 ≤ 1024 := of_decide_eq_true (by kernel_rfl)
theorem sz11 : sizeT Try.prog 11 = 1 := by kernel_rfl
theorem agg11 : aggT Try.prog 11 = some false := by kernel_rfl
theorem zero11 : zeroV Try.prog 11 = some (.str (bs [])) := by kernel_rfl
theorem by11 : bytesT Try.prog 11 ≤ 1024 := of_decide_eq_true (by kernel_rfl)
theorem sz12 : sizeT Try.prog 12 = 1 := by kernel_rfl
theorem agg12 : aggT Try.prog 12 = some false := by kernel_rfl
theorem zero12 : zeroV Try.prog 12 = some (.int .u64 0) := by kernel_rfl
theorem by12 : bytesT Try.prog 12 ≤ 1024 := of_decide_eq_true (by kernel_rfl)
theorem sz13 : sizeT Try.prog 13 = 2 := by kernel_rfl
theorem agg13 : aggT Try.prog 13 = some true := by kernel_rfl
theorem zero13 : zeroV Try.prog 13 = some (.agg [.str (bs []), .int .u64 0]) := by kernel_rfl
theorem by13 : bytesT Try.prog 13 ≤ 1024 := of_decide_eq_true (by kernel_rfl)
theorem bld13 (ps : List (Nat × V)) : build Try.prog 13 ps = (fillV (fun i => [(0, 1), (1, 1)][i]?) [.str (bs []), .int .u64 0] ps).map .agg := by kernel_rfl
theorem sz14 : sizeT Try.prog 14 = 2 := by kernel_rfl
theorem agg14 : aggT Try.prog 14 = some true := by kernel_rfl
theorem zero14 : zeroV Try.prog 14 = some (.agg [.str (bs []), .int .u64 0]) := by kernel_rfl
theorem by14 : bytesT Try.prog 14 ≤ 1024 := of_decide_eq_true (by kernel_rfl)
theorem bld14 (ps : List (Nat × V)) : build Try.prog 14 ps = (fillV (fun i => [(0, 1), (1, 1)][i]?) [.str (bs []), .int .u64 0] ps).map .agg := by kernel_rfl
theorem sz15 : sizeT Try.prog 15 = 1 := by kernel_rfl
theorem agg15 : aggT Try.prog 15 = some false := by kernel_rfl
theorem zero15 : zeroV Try.prog 15 = some (.nilp) := by kernel_rfl
theorem by15 : bytesT Try.prog 15 ≤ 1024 := of_decide_eq_true (by kernel_rfl)
theorem sz16 : sizeT Try.prog 16 = 1 := by kernel_rfl
theorem agg16 : aggT Try.prog 16 = some false := by kernel_rfl
theorem zero16 : zeroV Try.prog 16 = some (.nilp) := by kernel_rfl
theorem by16 : bytesT Try.prog 16 ≤ 1024 := of_decide_eq_true (by kernel_rfl)
theorem sz17 : sizeT Try.prog 17 = 1 := by kernel_rfl
theorem agg17 : aggT Try.prog 17 = some false := by kernel_rfl
theorem zero17 : zeroV Try.prog 17 = some (.nilp) := by kernel_rfl
theorem by17 : bytesT Try.prog 17 ≤ 1024 := of_decide_eq_true (by kernel_rfl)
theorem sz18 : sizeT Try.prog 18 = 1 := by kernel_rfl
theorem agg18 : aggT Try.prog 18 = some true := by kernel_rfl
theorem zero18 : zeroV Try.prog 18 = some (.agg [.nilp]) := by kernel_rfl
theorem by18 : bytesT Try.prog 18 ≤ 1024 := of_decide_eq_true (by kernel_rfl)
theorem bld18 (ps : List (Nat × V)) : build Try.prog 18 ps = (fillV (fun i => [(0, 1)][i]?) [.nilp] ps).map .agg := by kernel_rfl
theorem sz19 : sizeT Try.prog 19 = 1 := by kernel_rfl
theorem agg19 : aggT Try.prog 19 = some true := by kernel_rfl
theorem zero19 : zeroV Try.prog 19 = some (.agg [.nilp]) := by kernel_rfl
theorem by19 : bytesT Try.prog 19 ≤ 1024 := of_decide_eq_true (by kernel_rfl)
theorem bld19 (ps : List (Nat × V)) : build Try.prog 19 ps = (fillV (fun i => [(0, 1)][i]?) [.nilp] ps).map .agg := by kernel_rfl
theorem sz20 : sizeT Try.prog 20 = 1 := by kernel_rfl
theorem agg20 : aggT Try.prog 20 = some false := by kernel_rfl
theorem zero20 : zeroV Try.prog 20 = some (.nili) := by kernel_rfl
theorem by20 : bytesT Try.prog 20 ≤ 1024 := of_decide_eq_true (by kernel_rfl)
theorem sz21 : sizeT Try.prog 21 = 1 := by kernel_rfl
theorem agg21 : aggT Try.prog 21 = some false := by kernel_rfl
theorem zero21 : zeroV Try.prog 21 = some (.int .i32 0) := by kernel_rfl
theorem by21 : bytesT Try.prog 21 ≤ 1024 := of_decide_eq_true (by kernel_rfl)
theorem sz22 : sizeT Try.prog 22 = 3 := by kernel_rfl
theorem agg22 : aggT Try.prog 22 = some true := by kernel_rfl
theorem zero22 : zeroV Try.prog 22 = some (.agg [.int .i64 0, .int .i64 0, .int .i64 0]) := by kernel_rfl
theorem by22 : bytesT Try.prog 22 ≤ 1024 := of_decide_eq_true (by kernel_rfl)
theorem bld22 (ps : List (Nat × V)) : build Try.prog 22 ps = (fillV (fun i => [(0, 1), (1, 1), (2, 1)][i]?) [.int .i64 0, .int .i64 0, .int .i64 0] ps).map .agg := by kernel_rfl
theorem sz23 : sizeT Try.prog 23 = 3 := by kernel_rfl
theorem agg23 : aggT Try.prog 23 = some true := by kernel_rfl
theorem zero23 : zeroV Try.prog 23 = some (.agg [.int .i64 0, .int .i64 0, .int .i64 0]) := by kernel_rfl
theorem by23 : bytesT Try.prog 23 ≤ 1024 := of_decide_eq_true (by kernel_rfl)
theorem bld23 (ps : List (Nat × V)) : build Try.prog 23 ps = (fillV (fun i => [(0, 1), (1, 1), (2, 1)][i]?) [.int .i64 0, .int .i64 0, .int .i64 0] ps).map .agg := by kernel_rfl
theorem sz24 : sizeT Try.prog 24 = 1 := by kernel_rfl
theorem agg24 : aggT Try.prog 24 = some false := by kernel_rfl
theorem zero24 : zeroV Try.prog 24 = some (.nilf) := by kernel_rfl
theorem by24 : bytesT Try.prog 24 ≤ 1024 := of_decide_eq_true (by kernel_rfl)
theorem sz25 : sizeT Try.prog 25 = 1 := by kernel_rfl
theorem agg25 : aggT Try.prog 25 = some false := by kernel_rfl
theorem zero25 : zeroV Try.prog 25 = some (.int .i64 0) := by kernel_rfl
theorem by25 : bytesT Try.prog 25 ≤ 1024 := of_decide_eq_true (by kernel_rfl)
theorem sz27 : sizeT Try.prog 27 = 1 := by kernel_rfl
theorem agg27 : aggT Try.prog 27 = some false := by kernel_rfl
theorem zero27 : zeroV Try.prog 27 = some (.nilf) := by kernel_rfl
theorem by27 : bytesT Try.prog 27 ≤ 1024 := of_decide_eq_true (by kernel_rfl)
theorem sz28 : sizeT Try.prog 28 = 1 := by kernel_rfl
theorem agg28 : aggT Try.prog 28 = some false := by kernel_rfl
theorem zero28 : zeroV Try.prog 28 = some (.nilf) := by kernel_rfl
theorem by28 : bytesT Try.prog 28 ≤ 1024 := of_decide_eq_true (by kernel_rfl)
theorem sz29 : sizeT Try.prog 29 = 1 := by kernel_rfl
theorem agg29 : aggT Try.prog 29 = some false := by kernel_rfl
theorem zero29 : zeroV Try.prog 29 = some (.nilf) := by kernel_rfl
theorem by29 : bytesT Try.prog 29 ≤ 1024 := of_decide_eq_true (by kernel_rfl)
theorem sz31 : sizeT Try.prog 31 = 1 := by kernel_rfl
theorem agg31 : aggT Try.prog 31 = some false := by kernel_rfl
theorem zero31 : zeroV Try.prog 31 = some (.nilf) := by kernel_rfl
theorem by31 : bytesT Try.prog 31 ≤ 1024 := of_decide_eq_true (by kernel_rfl)
theorem sz32 : sizeT Try.prog 32 = 1 := by kernel_rfl
theorem agg32 : aggT Try.prog 32 = some false := by kernel_rfl
theorem zero32 : zeroV Try.prog 32 = some (.nilf) := by kernel_rfl
theorem by32 : bytesT Try.prog 32 ≤ 1024 := of_decide_eq_true (by kernel_rfl)
theorem sz33 : sizeT Try.prog 33 = 1 := by kernel_rfl
theorem agg33 : aggT Try.prog 33 = some false := by kernel_rfl
theorem zero33 : zeroV Try.prog 33 = some (.nilf) := by kernel_rfl
theorem by33 : bytesT Try.prog 33 ≤ 1024 := of_decide_eq_true (by kernel_rfl)
theorem sz34 : sizeT Try.prog 34 = 1 := by kernel_rfl
theorem agg34 : aggT Try.prog 34 = some false := by kernel_rfl
theorem zero34 : zeroV Try.prog 34 = some (.nilf) := by kernel_rfl
theorem by34 : bytesT Try.prog 34 ≤ 1024 := of_decide_eq_true (by kernel_rfl)
theorem sz35 : sizeT Try.prog 35 = 1 := by kernel_rfl
theorem agg35 : aggT Try.prog 35 = some false := by kernel_rfl
theorem zero35 : zeroV Try.prog 35 = some (.nilf) := by kernel_rfl
theorem by35 : bytesT Try.prog 35 ≤ 1024 := of_decide_eq_true (by kernel_rfl)
theorem sz36 : sizeT Try.prog 36 = 1 := by kernel_rfl
theorem agg36 : aggT Try.prog 36 = some false := by kernel_rfl
theorem zero36 : zeroV Try.prog 36 = some (.nilf) := by kernel_rfl
theorem by36 : bytesT Try.prog 36 ≤ 1024 := of_decide_eq_true (by kernel_rfl)
theorem sz37 : sizeT Try.prog 37 = 1 := by kernel_rfl
theorem agg37 : aggT Try.prog 37 = some false := by kernel_rfl
theorem zero37 : zeroV Try.prog 37 = some (.fl .f64 0) := by kernel_rfl
theorem by37 : bytesT Try.prog 37 ≤ 1024 := of_decide_eq_true (by kernel_rfl)
theorem sz38 : sizeT Try.prog 38 = 2 := by kernel_rfl
theorem agg38 : aggT Try.prog 38 = some true := by kernel_rfl
theorem zero38 : zeroV Try.prog 38 = some (.agg [.int .i64 0, .int .i64 0]) := by kernel_rfl
theorem by38 : bytesT Try.prog 38 ≤ 1024 := of_decide_eq_true (by kernel_rfl)
theorem bld38 (ps : List (Nat × V)) : build Try.prog 38 ps = (fillV (fun i => [(0, 1), (1, 1)][i]?) [.int .i64 0, .int .i64 0] ps).map .agg := by kernel_rfl
theorem sz39 : sizeT Try.prog 39 = 2 := by kernel_rfl
theorem agg39 : aggT Try.prog 39 = some true := by kernel_rfl
theorem zero39 : zeroV Try.prog 39 = some (.agg [.int .i64 0, .int .i64 0]) := by kernel_rfl
theorem by39 : bytesT Try.prog 39 ≤ 1024 := of_decide_eq_true (by kernel_rfl)
theorem bld39 (ps : List (Nat × V)) : build Try.prog 39 ps = (fillV (fun i => [(0, 1), (1, 1)][i]?) [.int .i64 0, .int .i64 0] ps).map .agg := by kernel_rfl
theorem sz41 : sizeT Try.prog 41 = 1 := by kernel_rfl
theorem agg41 : aggT Try.prog 41 = some false := by kernel_rfl
theorem zero41 : zeroV Try.prog 41 = some (.nilf) := by kernel_rfl
theorem by41 : bytesT Try.prog 41 ≤ 1024 := of_decide_eq_true (by kernel_rfl)
theorem sz43 : sizeT Try.prog 43 = 1 := by kernel_rfl
theorem agg43 : aggT Try.prog 43 = some false := by kernel_rfl
theorem zero43 : zeroV Try.prog 43 = some (.nilf) := by kernel_rfl
theorem by43 : bytesT Try.prog 43 ≤ 1024 := of_decide_eq_true (by kernel_rfl)
theorem sz45 : sizeT Try.prog 45 = 1 := by kernel_rfl
theorem agg45 : aggT Try.prog 45 = some false := by kernel_rfl
theorem zero45 : zeroV Try.prog 45 = some (.nilf) := by kernel_rfl
theorem by45 : bytesT Try.prog 45 ≤ 1024 := of_decide_eq_true (by kernel_rfl)
theorem sz46 : sizeT Try.prog 46 = 1 := by kernel_rfl
theorem agg46 : aggT Try.prog 46 = some false := by kernel_rfl
theorem zero46 : zeroV Try.prog 46 = some (.int .u64 0) := by kernel_rfl
theorem by46 : bytesT Try.prog 46 ≤ 1024 := of_decide_eq_true (by kernel_rfl)
theorem sz47 : sizeT Try.prog 47 = 1 := by kernel_rfl
theorem agg47 : aggT Try.prog 47 = some false := by kernel_rfl
theorem zero47 : zeroV Try.prog 47 = some (.nilf) := by kernel_rfl
theorem by47 : bytesT Try.prog 47 ≤ 1024 := of_decide_eq_true (by kernel_rfl)
theorem sz48 : sizeT Try.prog 48 = 1 := by kernel_rfl
theorem agg48 : aggT Try.prog 48 = some false := by kernel_rfl
theorem zero48 : zeroV Try.prog 48 = some (.nilf) := by kernel_rfl
theorem by48 : bytesT Try.prog 48 ≤ 1024 := of_decide_eq_true (by kernel_rfl)
theorem sz49 : sizeT Try.prog 49 = 1 := by kernel_rfl
theorem agg49 : aggT Try.prog 49 = some false := by kernel_rfl
theorem zero49 : zeroV Try.prog 49 = some (.nilf) := by kernel_rfl
theorem by49 : bytesT Try.prog 49 ≤ 1024 := of_decide_eq_true (by kernel_rfl)
theorem sz50 : sizeT Try.prog 50 = 1 := by kernel_rfl
theorem agg50 : aggT Try.prog 50 = some false := by kernel_rfl
theorem zero50 : zeroV Try.prog 50 = some (.nilf) := by kernel_rfl
theorem by50 : bytesT Try.prog 50 ≤ 1024 := of_decide_eq_true (by kernel_rfl)
theorem sz51 : sizeT Try.prog 51 = 1 := by kernel_rfl
theorem agg51 : aggT Try.prog 51 = some false := by kernel_rfl
theorem zero51 : zeroV Try.prog 51 = some (.nilf) := by kernel_rfl
theorem by51 : bytesT Try.prog 51 ≤ 1024 := of_decide_eq_true (by kernel_rfl)
theorem sz52 : sizeT Try.prog 52 = 1 := by kernel_rfl
theorem agg52 : aggT Try.prog 52 = some false := by kernel_rfl
theorem zero52 : zeroV Try.prog 52 = some (.nilf) := by kernel_rfl
theorem by52 : bytesT Try.prog 52 ≤ 1024 := of_decide_eq_true (by kernel_rfl)
theorem sz53 : sizeT Try.prog 53 = 1 := by kernel_rfl
theorem agg53 : aggT Try.prog 53 = some false := by kernel_rfl
theorem zero53 : zeroV Try.prog 53 = some (.nilf) := by kernel_rfl
theorem by53 : bytesT Try.prog 53 ≤ 1024 := of_decide_eq_true (by kernel_rfl)
theorem sz54 : sizeT Try.prog 54 = 1 := by kernel_rfl
theorem agg54 : aggT Try.prog 54 = some false := by kernel_rfl
theorem zero54 : zeroV Try.prog 54 = some (.nilf) := by kernel_rfl
theorem by54 : bytesT Try.prog 54 ≤ 1024 := of_decide_eq_true (by kernel_rfl)
theorem sz55 : sizeT Try.prog 55 = 2 := by kernel_rfl
theorem agg55 : aggT Try.prog 55 = some true := by kernel_rfl
theorem zero55 : zeroV Try.prog 55 = some (.agg [.int .i64 0, .int .i64 0]) := by kernel_rfl
theorem by55 : bytesT Try.prog 55 ≤ 1024 := of_decide_eq_true (by kernel_rfl)
theorem bld55 (ps : List (Nat × V)) : build Try.prog 55 ps = (fillV (fun i => [(0, 1), (1, 1)][i]?) [.int .i64 0, .int .i64 0] ps).map .agg := by kernel_rfl
theorem sz56 : sizeT Try.prog 56 = 2 := by kernel_rfl
theorem agg56 : aggT Try.prog 56 = some true := by kernel_rfl
theorem zero56 : zeroV Try.prog 56 = some (.agg [.int .i64 0, .int .i64 0]) := by kernel_rfl
theorem by56 : bytesT Try.prog 56 ≤ 1024 := of_decide_eq_true (by kernel_rfl)
theorem bld56 (ps : List (Nat × V)) : build Try.prog 56 ps = (fillV (fun i => [(0, 1), (1, 1)][i]?) [.int .i64 0, .int .i64 0] ps).map .agg := by kernel_rfl
theorem sz58 : sizeT Try.prog 58 = 1 := by kernel_rfl
theorem agg58 : aggT Try.prog 58 = some false := by kernel_rfl
theorem zero58 : zeroV Try.prog 58 = some (.nilf) := by kernel_rfl
theorem by58 : bytesT Try.prog 58 ≤ 1024 := of_decide_eq_true (by kernel_rfl)
theorem sz59 : sizeT Try.prog 59 = 1 := by kernel_rfl
theorem agg59 : aggT Try.prog 59 = some false := by kernel_rfl
theorem zero59 : zeroV Try.prog 59 = some (.nilf) := by kernel_rfl
theorem by59 : bytesT Try.prog 59 ≤ 1024 := of_decide_eq_true (by kernel_rfl)
theorem sz61 : sizeT Try.prog 61 = 1 := by kernel_rfl
theorem agg61 : aggT Try.prog 61 = some false := by kernel_rfl
theorem zero61 : zeroV Try.prog 61 = some (.nilf) := by kernel_rfl
theorem by61 : bytesT Try.prog 61 ≤ 1024 := of_decide_eq_true (by kernel_rfl)
theorem sz62 : sizeT Try.prog 62 = 1 := by kernel_rfl
theorem agg62 : aggT Try.prog 62 = some false := by kernel_rfl
theorem zero62 : zeroV Try.prog 62 = some (.nilf) := by kernel_rfl
theorem by62 : bytesT Try.prog 62 ≤ 1024 := of_decide_eq_true (by kernel_rfl)
theorem sz63 : sizeT Try.prog 63 = 1 := by kernel_rfl
theorem agg63 : aggT Try.prog 63 = some false := by kernel_rfl
theorem zero63 : zeroV Try.prog 63 = some (.nilf) := by kernel_rfl
theorem by63 : bytesT Try.prog 63 ≤ 1024 := of_decide_eq_true (by kernel_rfl)
theorem sz64 : sizeT Try.prog 64 = 1 := by kernel_rfl
theorem agg64 : aggT Try.prog 64 = some false := by kernel_rfl
theorem zero64 : zeroV Try.prog 64 = some (.nilf) := by kernel_rfl
theorem by64 : bytesT Try.prog 64 ≤ 1024 := of_decide_eq_true (by kernel_rfl)
theorem sz65 : sizeT Try.prog 65 = 1 := by kernel_rfl
theorem agg65 : aggT Try.prog 65 = some false := by kernel_rfl
theorem zero65 : zeroV Try.prog 65 = some (.nilf) := by kernel_rfl
theorem by65 : bytesT Try.prog 65 ≤ 1024 := of_decide_eq_true (by kernel_rfl)
theorem sz66 : sizeT Try.prog 66 = 1 := by kernel_rfl
theorem agg66 : aggT Try.prog 66 = some false := by kernel_rfl
theorem zero66 : zeroV Try.prog 66 = some (.int .u64 0) := by kernel_rfl
theorem by66 : bytesT Try.prog 66 ≤ 1024 := of_decide_eq_true (by kernel_rfl)
theorem sz67 : sizeT Try.prog 67 = 1 := by kernel_rfl
theorem agg67 : aggT Try.prog 67 = some false := by kernel_rfl
theorem zero67 : zeroV Try.prog 67 = some (.nilf) := by kernel_rfl
theorem by67 : bytesT Try.prog 67 ≤ 1024 := of_decide_eq_true (by kernel_rfl)
theorem sz68 : sizeT Try.prog 68 = 1 := by kernel_rfl
theorem agg68 : aggT Try.prog 68 = some false := by kernel_rfl
theorem zero68 : zeroV Try.prog 68 = some (.nilf) := by kernel_rfl
theorem by68 : bytesT Try.prog 68 ≤ 1024 := of_decide_eq_true (by kernel_rfl)
theorem sz69 : sizeT Try.prog 69 = 1 := by kernel_rfl
theorem agg69 : aggT Try.prog 69 = some false := by kernel_rfl
theorem zero69 : zeroV Try.prog 69 = some (.nilf) := by kernel_rfl
theorem by69 : bytesT Try.prog 69 ≤ 1024 := of_decide_eq_true (by kernel_rfl)
theorem sz70 : sizeT Try.prog 70 = 1 := by kernel_rfl
theorem agg70 : aggT Try.prog 70 = some false := by kernel_rfl
theorem zero70 : zeroV Try.prog 70 = some (.nilf) := by kernel_rfl
theorem by70 : bytesT Try.prog 70 ≤ 1024 := of_decide_eq_true (by kernel_rfl)
theorem sz72 : sizeT Try.prog 72 = 1 := by kernel_rfl
theorem agg72 : aggT Try.prog 72 = some false := by kernel_rfl
theorem zero72 : zeroV Try.prog 72 = some (.nilf) := by kernel_rfl
theorem by72 : bytesT Try.prog 72 ≤ 1024 := of_decide_eq_true (by kernel_rfl)
theorem sz73 : sizeT Try.prog 73 = 1 := by kernel_rfl
theorem agg73 : aggT Try.prog 73 = some false := by kernel_rfl
theorem zero73 : zeroV Try.prog 73 = some (.nils) := by kernel_rfl
theorem by73 : bytesT Try.prog 73 ≤ 1024 := of_decide_eq_true (by kernel_rfl)
theorem elem73 : elemT Try.prog 73 = 1 := by kernel_rfl
theorem sz74 : sizeT Try.prog 74 = 2 := by kernel_rfl
theorem agg74 : aggT Try.prog 74 = some true := by kernel_rfl
theorem zero74 : zeroV Try.prog 74 = some (.agg [.bool false, .nils]) := by kernel_rfl
theorem by74 : bytesT Try.prog 74 ≤ 1024 := of_decide_eq_true (by kernel_rfl)
theorem bld74 (ps : List (Nat × V)) : build Try.prog 74 ps = (fillV (fun i => [(0, 1), (1, 1)][i]?) [.bool false, .nils] ps).map .agg := by kernel_rfl
theorem sz75 : sizeT Try.prog 75 = 2 := by kernel_rfl
theorem agg75 : aggT Try.prog 75 = some true := by kernel_rfl
theorem zero75 : zeroV Try.prog 75 = some (.agg [.bool false, .nils]) := by kernel_rfl
theorem by75 : bytesT Try.prog 75 ≤ 1024 := of_decide_eq_true (by kernel_rfl)
theorem bld75 (ps : List (Nat × V)) : build Try.prog 75 ps = (fillV (fun i => [(0, 1), (1, 1)][i]?) [.bool false, .nils] ps).map .agg := by kernel_rfl
theorem sz76 : sizeT Try.prog 76 = 1 := by kernel_rfl
theorem agg76 : aggT Try.prog 76 = some false := by kernel_rfl
theorem zero76 : zeroV Try.prog 76 = some (.nilf) := by kernel_rfl
theorem by76 : bytesT Try.prog 76 ≤ 1024 := of_decide_eq_true (by kernel_rfl)
theorem sz77 : sizeT Try.prog 77 = 1 := by kernel_rfl
theorem agg77 : aggT Try.prog 77 = some false := by kernel_rfl
theorem zero77 : zeroV Try.prog 77 = some (.nilf) := by kernel_rfl
theorem by77 : bytesT Try.prog 77 ≤ 1024 := of_decide_eq_true (by kernel_rfl)
theorem sz78 : sizeT Try.prog 78 = 1 := by kernel_rfl
theorem agg78 : aggT Try.prog 78 = some false := by kernel_rfl
theorem zero78 : zeroV Try.prog 78 = some (.nilf) := by kernel_rfl
theorem by78 : bytesT Try.prog 78 ≤ 1024 := of_decide_eq_true (by kernel_rfl)
theorem sz80 : sizeT Try.prog 80 = 1 := by kernel_rfl
theorem agg80 : aggT Try.prog 80 = some false := by kernel_rfl
theorem zero80 : zeroV Try.prog 80 = some (.nilf) := by kernel_rfl
theorem by80 : bytesT Try.prog 80 ≤ 1024 := of_decide_eq_true (by kernel_rfl)
theorem sz81 : sizeT Try.prog 81 = 1 := by kernel_rfl
theorem agg81 : aggT Try.prog 81 = some false := by kernel_rfl
theorem zero81 : zeroV Try.prog 81 = some (.nilf) := by kernel_rfl
theorem by81 : bytesT Try.prog 81 ≤ 1024 := of_decide_eq_true (by kernel_rfl)
theorem sz82 : sizeT Try.prog 82 = 1 := by kernel_rfl
theorem agg82 : aggT Try.prog 82 = some false := by kernel_rfl
theorem zero82 : zeroV Try.prog 82 = some (.int .u32 0) := by kernel_rfl
theorem by82 : bytesT Try.prog 82 ≤ 1024 := of_decide_eq_true (by kernel_rfl)
theorem sz83 : sizeT Try.prog 83 = 1 := by kernel_rfl
theorem agg83 : aggT Try.prog 83 = some false := by kernel_rfl
theorem zero83 : zeroV Try.prog 83 = some (.nils) := by kernel_rfl
theorem by83 : bytesT Try.prog 83 ≤ 1024 := of_decide_eq_true (by kernel_rfl)
theorem elem83 : elemT Try.prog 83 = 1 := by kernel_rfl
theorem sz84 : sizeT Try.prog 84 = 1 := by kernel_rfl
theorem agg84 : aggT Try.prog 84 = some false := by kernel_rfl
theorem zero84 : zeroV Try.prog 84 = some (.nilf) := by kernel_rfl
theorem by84 : bytesT Try.prog 84 ≤ 1024 := of_decide_eq_true (by kernel_rfl)
theorem sz85 : sizeT Try.prog 85 = 1 := by kernel_rfl
theorem agg85 : aggT Try.prog 85 = some false := by kernel_rfl
theorem zero85 : zeroV Try.prog 85 = some (.nilf) := by kernel_rfl
theorem by85 : bytesT Try.prog 85 ≤ 1024 := of_decide_eq_true (by kernel_rfl)
theorem sz86 : sizeT Try.prog 86 = 1 := by kernel_rfl
theorem agg86 : aggT Try.prog 86 = some false := by kernel_rfl
theorem zero86 : zeroV Try.prog 86 = some (.nilf) := by kernel_rfl
theorem by86 : bytesT Try.prog 86 ≤ 1024 := of_decide_eq_true (by kernel_rfl)
theorem sz87 : sizeT Try.prog 87 = 1 := by kernel_rfl
theorem agg87 : aggT Try.prog 87 = some false := by kernel_rfl
theorem zero87 : zeroV Try.prog 87 = some (.nilf) := by kernel_rfl
theorem by87 : bytesT Try.prog 87 ≤ 1024 := of_decide_eq_true (by kernel_rfl)
theorem sz88 : sizeT Try.prog 88 = 1 := by kernel_rfl
theorem agg88 : aggT Try.prog 88 = some false := by kernel_rfl
theorem zero88 : zeroV Try.prog 88 = some (.nilf) := by kernel_rfl
theorem by88 : bytesT Try.prog 88 ≤ 1024 := of_decide_eq_true (by kernel_rfl)
theorem sz89 : sizeT Try.prog 89 = 1 := by kernel_rfl
theorem agg89 : aggT Try.prog 89 = some false := by kernel_rfl
theorem zero89 : zeroV Try.prog 89 = some (.nilf) := by kernel_rfl
theorem by89 : bytesT Try.prog 89 ≤ 1024 := of_decide_eq_true (by kernel_rfl)
theorem sz91 : sizeT Try.prog 91 = 1 := by kernel_rfl
theorem agg91 : aggT Try.prog 91 = some false := by kernel_rfl
theorem zero91 : zeroV Try.prog 91 = some (.nilf) := by kernel_rfl
theorem by91 : bytesT Try.prog 91 ≤ 1024 := of_decide_eq_true (by kernel_rfl)
theorem sz92 : sizeT Try.prog 92 = 1 := by kernel_rfl
theorem agg92 : aggT Try.prog 92 = some false := by kernel_rfl
theorem zero92 : zeroV Try.prog 92 = some (.nilf) := by kernel_rfl
theorem by92 : bytesT Try.prog 92 ≤ 1024 := of_decide_eq_true (by kernel_rfl)
theorem sz93 : sizeT Try.prog 93 = 1 := by kernel_rfl
theorem agg93 : aggT Try.prog 93 = some false := by kernel_rfl
theorem zero93 : zeroV Try.prog 93 = some (.nilf) := by kernel_rfl
theorem by93 : bytesT Try.prog 93 ≤ 1024 := of_decide_eq_true (by kernel_rfl)
theorem sz94 : sizeT Try.prog 94 = 1 := by kernel_rfl
theorem agg94 : aggT Try.prog 94 = some false := by kernel_rfl
theorem zero94 : zeroV Try.prog 94 = some (.nilf) := by kernel_rfl
theorem by94 : bytesT Try.prog 94 ≤ 1024 := of_decide_eq_true (by kernel_rfl)
theorem sz95 : sizeT Try.prog 95 = 1 := by kernel_rfl
theorem agg95 : aggT Try.prog 95 = some false := by kernel_rfl
theorem zero95 : zeroV Try.prog 95 = some (.nilf) := by kernel_rfl
theorem by95 : bytesT Try.prog 95 ≤ 1024 := of_decide_eq_true (by kernel_rfl)
theorem sz96 : sizeT Try.prog 96 = 1 := by kernel_rfl
theorem agg96 : aggT Try.prog 96 = some false := by kernel_rfl
theorem zero96 : zeroV Try.prog 96 = some (.nilf) := by kernel_rfl
theorem by96 : bytesT Try.prog 96 ≤ 1024 := of_decide_eq_true (by kernel_rfl)
theorem sz97 : sizeT Try.prog 97 = 4 := by kernel_rfl
theorem agg97 : aggT Try.prog 97 = some true := by kernel_rfl
theorem zero97 : zeroV Try.prog 97 = some (.agg [.nilp, .nilp, .nilp, .str (bs [])]) := by kernel_rfl
theorem by97 : bytesT Try.prog 97 ≤ 1024 := of_decide_eq_true (by kernel_rfl)
theorem bld97 (ps : List (Nat × V)) : build Try.prog 97 ps = (fillV (fun i => [(0, 1), (1, 1), (2, 1), (3, 1)][i]?) [.nilp, .nilp, .nilp, .str (bs [])] ps).map .agg := by kernel_rfl
theorem sz98 : sizeT Try.prog 98 = 4 := by kernel_rfl
theorem agg98 : aggT Try.prog 98 = some true := by kernel_rfl
theorem zero98 : zeroV Try.prog 98 = some (.agg [.nilp, .nilp, .nilp, .str (bs [])]) := by kernel_rfl
theorem by98 : bytesT Try.prog 98 ≤ 1024 := of_decide_eq_true (by kernel_rfl)
theorem bld98 (ps : List (Nat × V)) : build Try.prog 98 ps = (fillV (fun i => [(0, 1), (1, 1), (2, 1), (3, 1)][i]?) [.nilp, .nilp, .nilp, .str (bs [])] ps).map .agg := by kernel_rfl
theorem sz102 : sizeT Try.prog 102 = 1 := by kernel_rfl
theorem agg102 : aggT Try.prog 102 = some false := by kernel_rfl
theorem zero102 : zeroV Try.prog 102 = some (.int .u8 0) := by kernel_rfl
theorem by102 : bytesT Try.prog 102 ≤ 1024 := of_decide_eq_true (by kernel_rfl)
theorem sz103 : sizeT Try.prog 103 = 1 := by kernel_rfl
theorem agg103 : aggT Try.prog 103 = some false := by kernel_rfl
theorem zero103 : zeroV Try.prog 103 = some (.int .u8 0) := by kernel_rfl
theorem by103 : bytesT Try.prog 103 ≤ 1024 := of_decide_eq_true (by kernel_rfl)
theorem sz104 : sizeT Try.prog 104 = 1 := by kernel_rfl
theorem agg104 : aggT Try.prog 104 = some false := by kernel_rfl
theorem zero104 : zeroV Try.prog 104 = some (.nilf) := by kernel_rfl
theorem by104 : bytesT Try.prog 104 ≤ 1024 := of_decide_eq_true (by kernel_rfl)
theorem sz105 : sizeT Try.prog 105 = 1 := by kernel_rfl
theorem agg105 : aggT Try.prog 105 = some false := by kernel_rfl
theorem zero105 : zeroV Try.prog 105 = some (.nilp) := by kernel_rfl
theorem by105 : bytesT Try.prog 105 ≤ 1024 := of_decide_eq_true (by kernel_rfl)
theorem sz106 : sizeT Try.prog 106 = 1 := by kernel_rfl
theorem agg106 : aggT Try.prog 106 = some false := by kernel_rfl
theorem zero106 : zeroV Try.prog 106 = some (.int .i32 0) := by kernel_rfl
theorem by106 : bytesT Try.prog 106 ≤ 1024 := of_decide_eq_true (by kernel_rfl)
theorem sz107 : sizeT Try.prog 107 = 1 := by kernel_rfl
theorem agg107 : aggT Try.prog 107 = some false := by kernel_rfl
theorem zero107 : zeroV Try.prog 107 = some (.int .i32 0) := by kernel_rfl
theorem by107 : bytesT Try.prog 107 ≤ 1024 := of_decide_eq_true (by kernel_rfl)
theorem sz108 : sizeT Try.prog 108 = 11 := by kernel_rfl
theorem agg108 : aggT Try.prog 108 = some true := by kernel_rfl
theorem zero108 : zeroV Try.prog 108 = some (.agg [.int .u64 0, .int .u64 0, .int .u32 0, .int .u8 0, .int .u8 0, .int .u8 0, .int .u8 0, .nilf, .nilp, .int .i32 0, .int .i32 0]) := by kernel_rfl
theorem by108 : bytesT Try.prog 108 ≤ 1024 := of_decide_eq_true (by kernel_rfl)
theorem bld108 (ps : List (Nat × V)) : build Try.prog 108 ps = (fillV (fun i => [(0, 1), (1, 1), (2, 1), (3, 1), (4, 1), (5, 1), (6, 1), (7, 1), (8, 1), (9, 1), (10, 1)][i]?) [.int .u64 0, .int .u64 0, .int .u32 0, .int .u8 0, .int .u8 0, .int .u8 0, .int .u8 0, .nilf, .nilp, .int .i32 0, .int .i32 0] ps).map .agg := by kernel_rfl
theorem sz109 : sizeT Try.prog 109 = 11 := by kernel_rfl
theorem agg109 : aggT Try.prog 109 = some true := by kernel_rfl
theorem zero109 : zeroV Try.prog 109 = some (.agg [.int .u64 0, .int .u64 0, .int .u32 0, .int .u8 0, .int .u8 0, .int .u8 0, .int .u8 0, .nilf, .nilp, .int .i32 0, .int .i32 0]) := by kernel_rfl
theorem by109 : bytesT Try.prog 109 ≤ 1024 := of_decide_eq_true (by kernel_rfl)
theorem bld109 (ps : List (Nat × V)) : build Try.prog 109 ps = (fillV (fun i => [(0, 1), (1, 1), (2, 1), (3, 1), (4, 1), (5, 1), (6, 1), (7, 1), (8, 1), (9, 1), (10, 1)][i]?) [.int .u64 0, .int .u64 0, .int .u32 0, .int .u8 0, .int .u8 0, .int .u8 0, .int .u8 0, .nilf, .nilp, .int .i32 0, .int .i32 0] ps).map .agg := by kernel_rfl
theorem el1 : elOk Try.prog 1 = true := by kernel_rfl
theorem el2 : elOk Try.prog 2 = true := by kernel_rfl
theorem el3 : elOk Try.prog 3 = true := by kernel_rfl
theorem el4 : elOk Try.prog 4 = true := by kernel_rfl
theorem el5 : elOk Try.prog 5 = true := by kernel_rfl
theorem el6 : elOk Try.prog 6 = true := by kernel_rfl
theorem el7 : elOk Try.prog 7 = true := by kernel_rfl
theorem el8 : elOk Try.prog 8 = true := by kernel_rfl
theorem el9 : elOk Try.prog 9 = true := by kernel_rfl
theorem el10 : elOk Try.prog 10 = true := by kernel_rfl
theorem el11 : elOk Try.prog 11 = true := by kernel_rfl
theorem el12 : elOk Try.prog 12 = true := by kernel_rfl
theorem el13 : elOk Try.prog 13 = true := by kernel_rfl
theorem el14 : elOk Try.prog 14 = true := by kernel_rfl
theorem el15 : elOk Try.prog 15 = true := by kernel_rfl
theorem el16 : elOk Try.prog 16 = true := by kernel_rfl
theorem el17 : elOk Try.prog 17 = true := by kernel_rfl
theorem el18 : elOk Try.prog 18 = true := by kernel_rfl
theorem el19 : elOk Try.prog 19 = true := by kernel_rfl
theorem el20 : elOk Try.prog 20 = true := by kernel_rfl
theorem el21 : elOk Try.prog 21 = true := by kernel_rfl
theorem el22 : elOk Try.prog 22 = true := by kernel_rfl
theorem el23 : elOk Try.prog 23 = true := by kernel_rfl
theorem el24 : elOk Try.prog 24 = true := by kernel_rfl
theorem el25 : elOk Try.prog 25 = true := by kernel_rfl
theorem el27 : elOk Try.prog 27 = true := by kernel_rfl
theorem el28 : elOk Try.prog 28 = true := by kernel_rfl
theorem el29 : elOk Try.prog 29 = true := by kernel_rfl
theorem el31 : elOk Try.prog 31 = true := by kernel_rfl
theorem el32 : elOk Try.prog 32 = true := by kernel_rfl
theorem el33 : elOk Try.prog 33 = true := by kernel_rfl
theorem el34 : elOk Try.prog 34 = true := by kernel_rfl
theorem el35 : elOk Try.prog 35 = true := by kernel_rfl
theorem el36 : elOk Try.prog 36 = true := by kernel_rfl
theorem el37 : elOk Try.prog 37 = true := by kernel_rfl
theorem el38 : elOk Try.prog 38 = true := by kernel_rfl
theorem el39 : elOk Try.prog 39 = true := by kernel_rfl
theorem el41 : elOk Try.prog 41 = true := by kernel_rfl
theorem el43 : elOk Try.prog 43 = true := by kernel_rfl
theorem el45 : elOk Try.prog 45 = true := by kernel_rfl
theorem el46 : elOk Try.prog 46 = true := by kernel_rfl
theorem el47 : elOk Try.prog 47 = true := by kernel_rfl
theorem el48 : elOk Try.prog 48 = true := by kernel_rfl
theorem el49 : elOk Try.prog 49 = true := by kernel_rfl
theorem el50 : elOk Try.prog 50 = true := by kernel_rfl
theorem el51 : elOk Try.prog 51 = true := by kernel_rfl
theorem el52 : elOk Try.prog 52 = true := by kernel_rfl
theorem el53 : elOk Try.prog 53 = true := by kernel_rfl
theorem el54 : elOk Try.prog 54 = true := by kernel_rfl
theorem el55 : elOk Try.prog 55 = true := by kernel_rfl
theorem el56 : elOk Try.prog 56 = true := by kernel_rfl
theorem el58 : elOk Try.prog 58 = true := by kernel_rfl
theorem el59 : elOk Try.prog 59 = true := by kernel_rfl
theorem el61 : elOk Try.prog 61 = true := by kernel_rfl
theorem el62 : elOk Try.prog 62 = true := by kernel_rfl
theorem el63 : elOk Try.prog 63 = true := by kernel_rfl
theorem el64 : elOk Try.prog 64 = true := by kernel_rfl
theorem el65 : elOk Try.prog 65 = true := by kernel_rfl
theorem el66 : elOk Try.prog 66 = true := by kernel_rfl
theorem el67 : elOk Try.prog 67 = true := by kernel_rfl
theorem el68 : elOk Try.prog 68 = true := by kernel_rfl
theorem el69 : elOk Try.prog 69 = true := by kernel_rfl
theorem el70 : elOk Try.prog 70 = true := by kernel_rfl
theorem el72 : elOk Try.prog 72 = true := by kernel_rfl
theorem el73 : elOk Try.prog 73 = true := by kernel_rfl
theorem el74 : elOk Try.prog 74 = true := by kernel_rfl
theorem el75 : elOk Try.prog 75 = true := by kernel_rfl
theorem el76 : elOk Try.prog 76 = true := by kernel_rfl
theorem el77 : elOk Try.prog 77 = true := by kernel_rfl
theorem el78 : elOk Try.prog 78 = true := by kernel_rfl
theorem el80 : elOk Try.prog 80 = true := by kernel_rfl
theorem el81 : elOk Try.prog 81 = true := by kernel_rfl
theorem el82 : elOk Try.prog 82 = true := by kernel_rfl
theorem el83 : elOk Try.prog 83 = true := by kernel_rfl
theorem el84 : elOk Try.prog 84 = true := by kernel_rfl
theorem el85 : elOk Try.prog 85 = true := by kernel_rfl
theorem el86 : elOk Try.prog 86 = true := by kernel_rfl
theorem el87 : elOk Try.prog 87 = true := by kernel_rfl
theorem el88 : elOk Try.prog 88 = true := by kernel_rfl
theorem el89 : elOk Try.prog 89 = true := by kernel_rfl
theorem el91 : elOk Try.prog 91 = true := by kernel_rfl
theorem el92 : elOk Try.prog 92 = true := by kernel_rfl
theorem el93 : elOk Try.prog 93 = true := by kernel_rfl
theorem el94 : elOk Try.prog 94 = true := by kernel_rfl
theorem el95 : elOk Try.prog 95 = true := by kernel_rfl
theorem el96 : elOk Try.prog 96 = true := by kernel_rfl
theorem el97 : elOk Try.prog 97 = true := by kernel_rfl
theorem el98 : elOk Try.prog 98 = true := by kernel_rfl
theorem el102 : elOk Try.prog 102 = true := by kernel_rfl
theorem el103 : elOk Try.prog 103 = true := by kernel_rfl
theorem el104 : elOk Try.prog 104 = true := by kernel_rfl
theorem el105 : elOk Try.prog 105 = true := by kernel_rfl
theorem el106 : elOk Try.prog 106 = true := by kernel_rfl
theorem el107 : elOk Try.prog 107 = true := by kernel_rfl
theorem el108 : elOk Try.prog 108 = true := by kernel_rfl
theorem el109 : elOk Try.prog 109 = true := by kernel_rfl
def tys0 := (And.intro (And.intro (And.intro (And.intro (And.intro Try.underlying1 (And.intro sz1 agg1)) (And.intro zero1 (And.intro Try.underlying2 sz2))) (And.intro (And.intro agg2 (And.intro zero2 Try.underlying3)) (And.intro sz3 (And.intro agg3 zero3)))) (And.intro (And.intro (And.intro Try.underlying4 (And.intro sz4 agg4)) (And.intro zero4 (And.intro Try.underlying5 sz5))) (And.intro (And.intro agg5 (And.intro zero5 Try.underlying6)) (And.intro (And.intro sz6 agg6) (And.intro zero6 Try.underlying7))))) (And.intro (And.intro (And.intro (And.intro sz7 (And.intro agg7 zero7)) (And.intro bld7 (And.intro Try.underlying8 sz8))) (And.intro (And.intro agg8 (And.intro zero8 bld8)) (And.intro Try.underlying9 (And.intro sz9 agg9)))) (And.intro (And.intro (And.intro zero9 (And.intro Try.underlying10 sz10)) (And.intro agg10 (And.intro zero10 Try.underlying11))) (And.intro (And.intro sz11 (And.intro agg11 zero11)) (And.intro (And.intro Try.underlying12 sz12) (And.intro agg12 zero12))))))
def tys1 := (And.intro (And.intro (And.intro (And.intro (And.intro Try.underlying13 (And.intro sz13 agg13)) (And.intro zero13 (And.intro bld13 Try.underlying14))) (And.intro (And.intro sz14 (And.intro agg14 zero14)) (And.intro bld14 (And.intro Try.underlying15 sz15)))) (And.intro (And.intro (And.intro agg15 (And.intro zero15 Try.underlying16)) (And.intro sz16 (And.intro agg16 zero16))) (And.intro (And.intro Try.underlying17 (And.intro sz17 agg17)) (And.intro (And.intro zero17 Try.underlying18) (And.intro sz18 agg18))))) (And.intro (And.intro (And.intro (And.intro zero18 (And.intro bld18 Try.underlying19)) (And.intro sz19 (And.intro agg19 zero19))) (And.intro (And.intro bld19 (And.intro Try.underlying20 sz20)) (And.intro agg20 (And.intro zero20 Try.underlying21)))) (And.intro (And.intro (And.intro sz21 (And.intro agg21 zero21)) (And.intro Try.underlying22 (And.intro sz22 agg22))) (And.intro (And.intro zero22 (And.intro bld22 Try.underlying23)) (And.intro (And.intro sz23 agg23) (And.intro zero23 bld23))))))
def tys2 := (And.intro (And.intro (And.intro (And.intro (And.intro Try.underlying24 (And.intro sz24 agg24)) (And.intro zero24 (And.intro Try.underlying25 sz25))) (And.intro (And.intro agg25 (And.intro zero25 Try.underlying27)) (And.intro sz27 (And.intro agg27 zero27)))) (And.intro (And.intro (And.intro Try.underlying28 (And.intro sz28 agg28)) (And.intro zero28 (And.intro Try.underlying29 sz29))) (And.intro (And.intro agg29 (And.intro zero29 Try.underlying31)) (And.intro (And.intro sz31 agg31) (And.intro zero31 Try.underlying32))))) (And.intro (And.intro (And.intro (And.intro sz32 (And.intro agg32 zero32)) (And.intro Try.underlying33 (And.intro sz33 agg33))) (And.intro (And.intro zero33 (And.intro Try.underlying34 sz34)) (And.intro agg34 (And.intro zero34 Try.underlying35)))) (And.intro (And.intro (And.intro sz35 (And.intro agg35 zero35)) (And.intro Try.underlying36 (And.intro sz36 agg36))) (And.intro (And.intro zero36 (And.intro Try.underlying37 sz37)) (And.intro (And.intro agg37 zero37) (And.intro Try.underlying38 sz38))))))
def tys3 := (And.intro (And.intro (And.intro (And.intro (And.intro agg38 (And.intro zero38 bld38)) (And.intro Try.underlying39 (And.intro sz39 agg39))) (And.intro (And.intro zero39 (And.intro bld39 Try.underlying41)) (And.intro sz41 (And.intro agg41 zero41)))) (And.intro (And.intro (And.intro Try.underlying43 (And.intro sz43 agg43)) (And.intro zero43 (And.intro Try.underlying45 sz45))) (And.intro (And.intro agg45 (And.intro zero45 Try.underlying46)) (And.intro (And.intro sz46 agg46) (And.intro zero46 Try.underlying47))))) (And.intro (And.intro (And.intro (And.intro sz47 (And.intro agg47 zero47)) (And.intro Try.underlying48 (And.intro sz48 agg48))) (And.intro (And.intro zero48 (And.intro Try.underlying49 sz49)) (And.intro agg49 (And.intro zero49 Try.underlying50)))) (And.intro (And.intro (And.intro sz50 (And.intro agg50 zero50)) (And.intro Try.underlying51 (And.intro sz51 agg51))) (And.intro (And.intro zero51 (And.intro Try.underlying52 sz52)) (And.intro (And.intro agg52 zero52) (And.intro Try.underlying53 sz53))))))
def tys4 := (And.intro (And.intro (And.intro (And.intro (And.intro agg53 (And.intro zero53 Try.underlying54)) (And.intro sz54 (And.intro agg54 zero54))) (And.intro (And.intro Try.underlying55 (And.intro sz55 agg55)) (And.intro zero55 (And.intro bld55 Try.underlying56)))) (And.intro (And.intro (And.intro sz56 (And.intro agg56 zero56)) (And.intro bld56 (And.intro Try.underlying58 sz58))) (And.intro (And.intro agg58 (And.intro zero58 Try.underlying59)) (And.intro (And.intro sz59 agg59) (And.intro zero59 Try.underlying61))))) (And.intro (And.intro (And.intro (And.intro sz61 (And.intro agg61 zero61)) (And.intro Try.underlying62 (And.intro sz62 agg62))) (And.intro (And.intro zero62 (And.intro Try.underlying63 sz63)) (And.intro agg63 (And.intro zero63 Try.underlying64)))) (And.intro (And.intro (And.intro sz64 (And.intro agg64 zero64)) (And.intro Try.underlying65 (And.intro sz65 agg65))) (And.intro (And.intro zero65 (And.intro Try.underlying66 sz66)) (And.intro (And.intro agg66 zero66) (And.intro Try.underlying67 sz67))))))
def tys5 := (And.intro (And.intro (And.intro (And.intro (And.intro agg67 (And.intro zero67 Try.underlying68)) (And.intro sz68 (And.intro agg68 zero68))) (And.intro (And.intro Try.underlying69 (And.intro sz69 agg69)) (And.intro zero69 (And.intro Try.underlying70 sz70)))) (And.intro (And.intro (And.intro agg70 (And.intro zero70 Try.underlying72)) (And.intro sz72 (And.intro agg72 zero72))) (And.intro (And.intro Try.underlying73 (And.intro sz73 agg73)) (And.intro (And.intro zero73 elem73) (And.intro Try.underlying74 sz74))))) (And.intro (And.intro (And.intro (And.intro agg74 (And.intro zero74 bld74)) (And.intro Try.underlying75 (And.intro sz75 agg75))) (And.intro (And.intro zero75 (And.intro bld75 Try.underlying76)) (And.intro sz76 (And.intro agg76 zero76)))) (And.intro (And.intro (And.intro Try.underlying77 (And.intro sz77 agg77)) (And.intro zero77 (And.intro Try.underlying78 sz78))) (And.intro (And.intro agg78 (And.intro zero78 Try.underlying80)) (And.intro (And.intro sz80 agg80) (And.intro zero80 Try.underlying81))))))
def tys6 := (And.intro (And.intro (And.intro (And.intro (And.intro sz81 (And.intro agg81 zero81)) (And.intro Try.underlying82 (And.intro sz82 agg82))) (And.intro (And.intro zero82 (And.intro Try.underlying83 sz83)) (And.intro agg83 (And.intro zero83 elem83)))) (And.intro (And.intro (And.intro Try.underlying84 (And.intro sz84 agg84)) (And.intro zero84 (And.intro Try.underlying85 sz85))) (And.intro (And.intro agg85 (And.intro zero85 Try.underlying86)) (And.intro (And.intro sz86 agg86) (And.intro zero86 Try.underlying87))))) (And.intro (And.intro (And.intro (And.intro sz87 (And.intro agg87 zero87)) (And.intro Try.underlying88 (And.intro sz88 agg88))) (And.intro (And.intro zero88 (And.intro Try.underlying89 sz89)) (And.intro agg89 (And.intro zero89 Try.underlying91)))) (And.intro (And.intro (And.intro sz91 (And.intro agg91 zero91)) (And.intro Try.underlying92 (And.intro sz92 agg92))) (And.intro (And.intro zero92 (And.intro Try.underlying93 sz93)) (And.intro (And.intro agg93 zero93) (And.intro Try.underlying94 sz94))))))
def tys7 := (And.intro (And.intro (And.intro (And.intro (And.intro agg94 (And.intro zero94 Try.underlying95)) (And.intro sz95 (And.intro agg95 zero95))) (And.intro (And.intro Try.underlying96 (And.intro sz96 agg96)) (And.intro zero96 (And.intro Try.underlying97 sz97)))) (And.intro (And.intro (And.intro agg97 (And.intro zero97 bld97)) (And.intro Try.underlying98 (And.intro sz98 agg98))) (And.intro (And.intro zero98 (And.intro bld98 Try.underlying99)) (And.intro (And.intro Try.underlying100 Try.underlying101) (And.intro Try.underlying102 sz102))))) (And.intro (And.intro (And.intro (And.intro agg102 (And.intro zero102 Try.underlying103)) (And.intro sz103 (And.intro agg103 zero103))) (And.intro (And.intro Try.underlying104 (And.intro sz104 agg104)) (And.intro zero104 (And.intro Try.underlying105 sz105)))) (And.intro (And.intro (And.intro agg105 (And.intro zero105 Try.underlying106)) (And.intro sz106 (And.intro agg106 zero106))) (And.intro (And.intro Try.underlying107 (And.intro sz107 agg107)) (And.intro (And.intro zero107 Try.underlying108) (And.intro sz108 agg108))))))
def tys8 := (And.intro (And.intro (And.intro (And.intro (And.intro zero108 (And.intro bld108 Try.underlying109)) (And.intro sz109 (And.intro agg109 zero109))) (And.intro (And.intro bld109 (And.intro Try.underlying110 el1)) (And.intro el2 (And.intro el3 el4)))) (And.intro (And.intro (And.intro el5 (And.intro el6 el7)) (And.intro el8 (And.intro el9 el10))) (And.intro (And.intro el11 (And.intro el12 el13)) (And.intro (And.intro el14 el15) (And.intro el16 el17))))) (And.intro (And.intro (And.intro (And.intro el18 (And.intro el19 el20)) (And.intro el21 (And.intro el22 el23))) (And.intro (And.intro el24 (And.intro el25 el27)) (And.intro el28 (And.intro el29 el31)))) (And.intro (And.intro (And.intro el32 (And.intro el33 el34)) (And.intro el35 (And.intro el36 el37))) (And.intro (And.intro el38 (And.intro el39 el41)) (And.intro (And.intro el43 el45) (And.intro el46 el47))))))
def tys9 := (And.intro (And.intro (And.intro (And.intro (And.intro el48 (And.intro el49 el50)) (And.intro el51 (And.intro el52 el53))) (And.intro (And.intro el54 (And.intro el55 el56)) (And.intro el58 (And.intro el59 el61)))) (And.intro (And.intro (And.intro el62 (And.intro el63 el64)) (And.intro el65 (And.intro el66 el67))) (And.intro (And.intro el68 (And.intro el69 el70)) (And.intro (And.intro el72 el73) (And.intro el74 el75))))) (And.intro (And.intro (And.intro (And.intro el76 (And.intro el77 el78)) (And.intro el80 (And.intro el81 el82))) (And.intro (And.intro el83 (And.intro el84 el85)) (And.intro el86 (And.intro el87 el88)))) (And.intro (And.intro (And.intro el89 (And.intro el91 el92)) (And.intro el93 (And.intro el94 el95))) (And.intro (And.intro el96 (And.intro el97 el98)) (And.intro (And.intro el102 el103) (And.intro el104 el105))))))
def tys10 := (And.intro (And.intro el106 el107) (And.intro el108 el109))
def tys := (And.intro (And.intro (And.intro tys0 tys1) (And.intro tys2 (And.intro tys3 tys4))) (And.intro (And.intro tys5 (And.intro tys6 tys7)) (And.intro tys8 (And.intro tys9 tys10))))
end Go.Proofs.Ytacnpljkcpomnaa
