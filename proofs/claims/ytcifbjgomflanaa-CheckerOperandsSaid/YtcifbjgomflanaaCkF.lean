/-
  Checker: rows' imports. No condition.
-/
import Derived.Test.YtcifbjgomflanaaCkE
import Derived.Test.YtcifbjgomflanaaLawE
import Derived.BigQuiet
import Derived.StillTailTactics
import Derived.Lib.Overlaps
import Derived.Deep.DeepCutAuto
set_option maxRecDepth 100000
set_option linter.unusedVariables false
set_option linter.unusedSimpArgs false
namespace Go.Proofs.Ytcifbjgomflanaa
open Go.RowKit

end Go.Proofs.Ytcifbjgomflanaa
