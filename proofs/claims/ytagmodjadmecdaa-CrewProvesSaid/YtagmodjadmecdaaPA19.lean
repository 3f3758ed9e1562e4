/-
  No earlier: Next. Conditions: none.
-/
import Derived.Test.YtagmodjadmecdaaPA18
namespace Go.Proofs.Ytagmodjadmecdaa
open Go Go.RowKit

end Go.Proofs.Ytagmodjadmecdaa
