/- Contracts of real.Key, Less, Canon, of ref05's Class, Canon, Less; awake; the walks of RealClasses and RealOrder. -/
import Derived.Test.YtkbjnlbbfapgdaaDoorReal
import Derived.Test.YtkbjnlbbfapgdaaDoorRealC
import Derived.Test.YtkbjnlbbfapgdaaDoorRealHalf
import Derived.Test.YtkbjnlbbfapgdaaDoorPlainReal2
import Derived.Laws.BitsAll
set_option maxRecDepth 100000
set_option linter.unusedVariables false
set_option linter.unusedSimpArgs false
namespace Go.Proofs.YtkbjnlbbfapgdaaDoor
open Go.RowKit

end Go.Proofs.YtkbjnlbbfapgdaaDoor
