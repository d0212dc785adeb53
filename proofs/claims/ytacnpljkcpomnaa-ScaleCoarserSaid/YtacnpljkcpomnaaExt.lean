import Derived.Test.YtacnpljkcpomnaaEvStr
import Derived.Lib.BitFns
namespace Go.Proofs.Ytacnpljkcpomnaa
open Go Ev
def mul64X : List V → Option V
  | [.int .u64 x, .int .u64 y] => if (0 ≤ x ∧ x ≤ 18446744073709551615) ∧ 0 ≤ y ∧ y ≤ 18446744073709551615 then some (.tup [.int .u64 (x * y / 18446744073709551616), .int .u64 (x * y % 18446744073709551616)]) else none
  | _ => none
def len64X : List V → Option V
  | [.int .u64 x] => if 0 ≤ x ∧ x ≤ 18446744073709551615 then some (.int .i64 (Lib.bitLen x.toNat)) else none
  | _ => none
end Go.Proofs.Ytacnpljkcpomnaa
