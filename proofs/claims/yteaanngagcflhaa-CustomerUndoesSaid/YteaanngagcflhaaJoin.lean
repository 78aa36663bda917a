/-
  Facts about this program that every row asks, each by itself (together they want more memory than a process has). No condition.
-/
import Derived.Test.YteaanngagcflhaaChecked
import Derived.Test.YteaanngagcflhaaRows
import Derived.JoinedOf
set_option maxRecDepth 100000
namespace Go.Proofs.Yteaanngagcflhaa
open Go
theorem join_enter : Program.mayEnter Try.prog = true := by kernel_rfl
theorem join_make : Try.prog.make = some Rows.customerChecksRow.make := by kernel_rfl
theorem join_lift : Try.prog.liftsFinal = Rows.customerChecksRow.lifted := by kernel_rfl
theorem join_laid : laidOutB Try.prog = true := by kernel_rfl
end Go.Proofs.Yteaanngagcflhaa
