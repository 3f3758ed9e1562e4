/-
  Contracts of copies of hulls and of the reference's functions on hulls and tows. Conditions: none.
-/
import Derived.Test.YtmicjleiheoieaaOA8
import Derived.Test.YtmicjleiheoieaaOR1
import Derived.Test.YtmicjleiheoieaaOApp
import Derived.Test.YtmicjleiheoieaaOEq
namespace Go.Proofs.Ytmicjleiheoieaa
open Go Go.RowKit

end Go.Proofs.Ytmicjleiheoieaa
