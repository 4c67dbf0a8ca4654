/- The plain law of reading a book: the first line is a survey, the further lines are deeds done one upon the other. No program. Plain law of texts of books: a book's text is read back; what is read of a text, and of its beginnings. No program. -/
import Derived.Test.YthfoloefkfadlaaGreatDoorT5
import Derived.Test.YthfoloefkfadlaaGreatDoorK7
import Derived.Test.YthfoloefkfadlaaGreatDoorT1
import Derived.Test.YthfoloefkfadlaaGreatDoorT2
set_option linter.unusedSimpArgs false
set_option linter.unusedVariables false
namespace Go.Proofs.YthfoloefkfadlaaGreatDoor
open Go Go.RowKit Go.Sort

end Go.Proofs.YthfoloefkfadlaaGreatDoor

namespace Go.Proofs.YthfoloefkfadlaaGreatDoor
open Go Go.RowKit

end Go.Proofs.YthfoloefkfadlaaGreatDoor
