/- Walks: spec.ReadSurvey. Walks: impl.ReadSurvey. -/
import Derived.Test.YthfoloefkfadlaaGreatDoorT4
import Derived.Test.YthfoloefkfadlaaGreatDoorK4
set_option linter.unusedSimpArgs false
set_option linter.unusedVariables false
namespace Go.Proofs.YthfoloefkfadlaaGreatDoor
open Go Go.RowKit Go.Sort

end Go.Proofs.YthfoloefkfadlaaGreatDoor

namespace Go.Proofs.YthfoloefkfadlaaGreatDoor
open Go Go.RowKit Go.Sort

end Go.Proofs.YthfoloefkfadlaaGreatDoor
