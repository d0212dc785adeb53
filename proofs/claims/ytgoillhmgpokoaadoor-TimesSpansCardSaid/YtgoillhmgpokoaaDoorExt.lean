import Derived.Test.YtgoillhmgpokoaaDoorEvStr
import Derived.Lib.ItoaNum
import Derived.Lib.ItoaLen
namespace Go.Proofs.YtgoillhmgpokoaaDoor
open Go Ev
def itoaX : List V → Option V
  | [.int .i64 n, .int .i64 10] => if -9223372036854775808 ≤ n ∧ n ≤ 9223372036854775807 then some (.str (bs (Lib.itoa n))) else none
  | _ => none
def pow10V : List V := Lib.pow10Tab.map (.int .u64)
end Go.Proofs.YtgoillhmgpokoaaDoor
