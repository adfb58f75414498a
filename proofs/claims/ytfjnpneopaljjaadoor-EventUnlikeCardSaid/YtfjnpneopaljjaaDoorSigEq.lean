/-
  '==' on two signals.
-/
import Derived.Test.YtfjnpneopaljjaaDoorRows
import Derived.WalkKit
import Derived.Laws.StructEq
set_option linter.unusedVariables false
set_option linter.unusedSimpArgs false
namespace Go.Proofs.YtfjnpneopaljjaaDoor
open Go.RowKit

theorem sig_eql (k1 k2 : Int) (s1 s2 : ByteArray) (f1 f2 : Bool) (c1 c2 n1 n2 : Int) (w : World) :
    (binOp .eql 31 (.agg #[.int .i64 k1, .string s1, .bool f1, .int .u8 c1, .int .i64 n1]) (.agg #[.int .i64 k2, .string s2, .bool f2, .int .u8 c2, .int .i64 n2])).run Tryd.prog w =
      .ok (.bool (k1 == k2 && (s1.toList == s2.toList && (f1 == f2 && (c1 == c2 && n1 == n2))))) w := by
  by_cases h1 : k1 = k2
  all_goals by_cases h2 : s1.toList = s2.toList
  all_goals by_cases h3 : f1 = f2
  all_goals by_cases h4 : c1 = c2
  all_goals by_cases h5 : n1 = n2
  all_goals simp [go_sem, h1, h2, h3, h4, h5]
end Go.Proofs.YtfjnpneopaljjaaDoor
