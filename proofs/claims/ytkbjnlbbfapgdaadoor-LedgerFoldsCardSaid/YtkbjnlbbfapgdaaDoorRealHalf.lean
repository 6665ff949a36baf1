/- Half a number, picked of three: what 'awake' asks of real.Pick. -/
import Derived.Test.YtkbjnlbbfapgdaaDoorReal
import Derived.Test.YtkbjnlbbfapgdaaDoorShelf
import Derived.Laws.BitsAll
import Derived.Laws.FloatArith
set_option maxRecDepth 100000
set_option linter.unusedVariables false
set_option linter.unusedSimpArgs false
namespace Go.Proofs.YtkbjnlbbfapgdaaDoor
open Go.RowKit

end Go.Proofs.YtkbjnlbbfapgdaaDoor
