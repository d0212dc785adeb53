import Derived.Test.YtgoillhmgpokoaaDoorEvStr
import Derived.Lib.ItoaNum
import Derived.Lib.ItoaLen
namespace Go.Proofs.YtgoillhmgpokoaaDoor
open Go Ev
def itoaX : List V → Option V
  | [.int .i64 n, .int .i64 10] => if -9223372036854775808 ≤ n ∧ n ≤ 9223372036854775807 then some (.str (bs (Lib.itoa n))) else none
  | _ => none
def mul64X : List V → Option V
  | [.int .u64 x, .int .u64 y] => if (0 ≤ x ∧ x ≤ 18446744073709551615) ∧ 0 ≤ y ∧ y ≤ 18446744073709551615 then some (.tup [.int .u64 (x * y / 18446744073709551616), .int .u64 (x * y % 18446744073709551616)]) else none
  | _ => none
end Go.Proofs.YtgoillhmgpokoaaDoor
