import Derived.Test.YthpfimildcbgmaaDoorEvStr
import Derived.Test.YthpfimildcbgmaaDoorEvAtom
import Derived.Lib.BitFns
namespace Go.Proofs.YthpfimildcbgmaaDoor
open Go Ev
def len64X : List V → Option V
  | [.int .u64 x] => if 0 ≤ x ∧ x ≤ 18446744073709551615 then some (.int .i64 (Lib.bitLen x.toNat)) else none
  | _ => none
end Go.Proofs.YthpfimildcbgmaaDoor
