/-
  Expressions: rows' imports. No condition.
-/
import Derived.Test.YtigfkbomeimobaaExDi
import Derived.Test.YtigfkbomeimobaaLaw
import Derived.Test.YtigfkbomeimobaaLawT
import Derived.BigQuiet
import Derived.StillTailTactics
import Derived.Lib.Overlaps
import Derived.Deep.DeepCutAuto
set_option maxRecDepth 100000
set_option linter.unusedVariables false
set_option linter.unusedSimpArgs false
namespace Go.Proofs.Ytigfkbomeimobaa
open Go.RowKit

end Go.Proofs.Ytigfkbomeimobaa
