/-
  CrewRests and CrewNexts. Conditions: none.
-/
import Derived.Test.YtagmodjadmecdaaGreatHB2
namespace Go.Proofs.YtagmodjadmecdaaGreat
open Go Go.RowKit

end Go.Proofs.YtagmodjadmecdaaGreat
