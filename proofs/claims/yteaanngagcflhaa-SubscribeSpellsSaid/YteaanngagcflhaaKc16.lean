/-
  Customers: world.account. No condition.
-/
import Derived.Test.YteaanngagcflhaaKc03
import Derived.BigQuiet
import Derived.StillTailTactics
import Derived.Lib.Overlaps
import Derived.Deep.DeepCutAuto
import Derived.Deep.RegionWith
import Derived.Laws.RangeAny
import Derived.Deep.RegionHeld
import Derived.Deep.RegionHeldLaw
set_option maxRecDepth 100000
set_option linter.unusedVariables false
set_option linter.unusedSimpArgs false
namespace Go.Proofs.Yteaanngagcflhaa
open Go.RowKit
namespace Cu
open Go.Maps
theorem box1d (w : World) (cs : Array Value) (t : TypeId) : ∃ W, W = (w.alloc (.cells cs t)).drew ∧ Below w.heap.size w W ∧ w.heap.size < W.heap.size ∧ (∀ j u, cs.toList[j]? = some u → W.cell? ⟨w.heap.size, j, none⟩ = some u) ∧ (∀ j, W.frozen? ⟨w.heap.size, j, none⟩ = false) := by
  obtain ⟨V, hV, h1, h2, h3, h4⟩ := box1 w cs t
  exact ⟨V.drew, by rw [hV], h1.drew, h2, h3, h4⟩
end Cu
end Go.Proofs.Yteaanngagcflhaa
