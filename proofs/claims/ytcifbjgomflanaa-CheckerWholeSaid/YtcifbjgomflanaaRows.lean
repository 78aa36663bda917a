/-
  NARROWER THAN 'FOR EVERY INPUT', by the rows' own cells (each row's printed sentence says how): CheckerExprs: loops · CheckerOperands: loops · CheckerTariffs: loops · CheckerCovers: loops · CheckerWhole: loops.
  DERIVED. THE GIVEN ROWS OF THIS SEAT. 7 by the template 'for every input the law returns true; each argument reads behind the call as it read before'; 0 by the template 'total and deterministic' (their statements: YtcifbjgomflanaaTotals.lean).
  GIVEN WITH THE SEED: the statements are not yours to turn. If you find one false, say at which input.
  Laid BY PROGRAM, IN A SANDBOX (cutbox-rows.mjs): the forced cells as the released guide's own fill.sh prints them over the translation 18a39a7d50521cdb… (all of the seat's roots in one cut). By AI agents, Wed Nov 11 2026. No macro, syntax, notation, axiom, sorry.
-/
import Derived.Test.YtcifbjgomflanaaChecked
import GoSem.Claim
import GoSem.ClaimJoined
import GoSem.ClaimMapViews
import Derived.JoinedTies
import Derived.KernelRfl
namespace Go.Proofs.Ytcifbjgomflanaa
/- THE CELL 'sum', in the pinned program and in every row, IS THE sha256 OF THE DUMP (.gsa) THAT YtcifbjgomflanaaProg.lean LOADS. Nothing in Lean hashes anything: it is a label: what it is worth is what the hold of that sum in a sandbox is worth. -/
noncomputable def Try.pinned : Pinned := { name := "ytcifbjgomflanaa", sum := "18a39a7d50521cdb70d710bc56bb30e0a9c767a20d5cd058ce5d9cde8a54607a", checked := Try.checked }
namespace Rows
def none {H : Type} : Left H := { results := [], args := [] }

/-- 'billinglaw26.CheckerExprs': WHATEVER THE INPUT: true; the input reads as it did. -/
def checkerExprsSpec : ChangeSpec := { name := "checkerExprs", fn := fun _ => fun
  | [d] => { results := [.lit (.bool true)], args := [d] }
  | _ => none }
def checkerExprsRow : OpenClaim := { program := "ytcifbjgomflanaa", sum := "18a39a7d50521cdb70d710bc56bb30e0a9c767a20d5cd058ce5d9cde8a54607a", func := "billing/billinglaw26.CheckerExprs", spec := "checkerExprs", unfollowed := true, recurses := true, loops := true, apart := false }
def CheckerExprsSaid : Prop := checkerExprsRow.holds Try.pinned (OpenSpec.ofChange checkerExprsSpec)

/-- ITS FALSE NEIGHBOUR: 'it returns false'. Refute it at one input. -/
def checkerExprsWrong : ChangeSpec := { name := "checkerExprs", fn := fun _ => fun
  | [d] => { results := [.lit (.bool false)], args := [d] }
  | _ => none }
def CheckerExprsWrongFalsely : Prop := checkerExprsRow.holds Try.pinned (OpenSpec.ofChange checkerExprsWrong)

/-- 'billinglaw26.CheckerOperands': WHATEVER THE INPUT: true; the input reads as it did. -/
def checkerOperandsSpec : ChangeSpec := { name := "checkerOperands", fn := fun _ => fun
  | [d] => { results := [.lit (.bool true)], args := [d] }
  | _ => none }
def checkerOperandsRow : OpenClaim := { program := "ytcifbjgomflanaa", sum := "18a39a7d50521cdb70d710bc56bb30e0a9c767a20d5cd058ce5d9cde8a54607a", func := "billing/billinglaw26.CheckerOperands", spec := "checkerOperands", unfollowed := true, recurses := true, loops := true, apart := false }
def CheckerOperandsSaid : Prop := checkerOperandsRow.holds Try.pinned (OpenSpec.ofChange checkerOperandsSpec)

/-- ITS FALSE NEIGHBOUR: 'it returns false'. Refute it at one input. -/
def checkerOperandsWrong : ChangeSpec := { name := "checkerOperands", fn := fun _ => fun
  | [d] => { results := [.lit (.bool false)], args := [d] }
  | _ => none }
def CheckerOperandsWrongFalsely : Prop := checkerOperandsRow.holds Try.pinned (OpenSpec.ofChange checkerOperandsWrong)

/-- 'billinglaw26.CheckerDepth': WHATEVER THE INPUT: true; the input reads as it did. -/
def checkerDepthSpec : ChangeSpec := { name := "checkerDepth", fn := fun _ => fun
  | [d1, d2] => { results := [.lit (.bool true)], args := [d1, d2] }
  | _ => none }
def checkerDepthRow : OpenClaim := { program := "ytcifbjgomflanaa", sum := "18a39a7d50521cdb70d710bc56bb30e0a9c767a20d5cd058ce5d9cde8a54607a", func := "billing/billinglaw26.CheckerDepth", spec := "checkerDepth", unfollowed := true, recurses := true, apart := false }
def CheckerDepthSaid : Prop := checkerDepthRow.holds Try.pinned (OpenSpec.ofChange checkerDepthSpec)

/-- ITS FALSE NEIGHBOUR: 'it returns false'. Refute it at one input. -/
def checkerDepthWrong : ChangeSpec := { name := "checkerDepth", fn := fun _ => fun
  | [d1, d2] => { results := [.lit (.bool false)], args := [d1, d2] }
  | _ => none }
def CheckerDepthWrongFalsely : Prop := checkerDepthRow.holds Try.pinned (OpenSpec.ofChange checkerDepthWrong)

/-- 'billinglaw26.CheckerSteps': WHATEVER THE INPUT: true; the input reads as it did. -/
def checkerStepsSpec : ChangeSpec := { name := "checkerSteps", fn := fun _ => fun
  | [d] => { results := [.lit (.bool true)], args := [d] }
  | _ => none }
def checkerStepsRow : OpenClaim := { program := "ytcifbjgomflanaa", sum := "18a39a7d50521cdb70d710bc56bb30e0a9c767a20d5cd058ce5d9cde8a54607a", func := "billing/billinglaw26.CheckerSteps", spec := "checkerSteps", unfollowed := true, recurses := true, apart := false }
def CheckerStepsSaid : Prop := checkerStepsRow.holds Try.pinned (OpenSpec.ofChange checkerStepsSpec)

/-- ITS FALSE NEIGHBOUR: 'it returns false'. Refute it at one input. -/
def checkerStepsWrong : ChangeSpec := { name := "checkerSteps", fn := fun _ => fun
  | [d] => { results := [.lit (.bool false)], args := [d] }
  | _ => none }
def CheckerStepsWrongFalsely : Prop := checkerStepsRow.holds Try.pinned (OpenSpec.ofChange checkerStepsWrong)

/-- 'billinglaw26.CheckerTariffs': WHATEVER THE INPUT: true; the input reads as it did. -/
def checkerTariffsSpec : ChangeSpec := { name := "checkerTariffs", fn := fun _ => fun
  | [d] => { results := [.lit (.bool true)], args := [d] }
  | _ => none }
def checkerTariffsRow : OpenClaim := { program := "ytcifbjgomflanaa", sum := "18a39a7d50521cdb70d710bc56bb30e0a9c767a20d5cd058ce5d9cde8a54607a", func := "billing/billinglaw26.CheckerTariffs", spec := "checkerTariffs", unfollowed := true, recurses := true, loops := true, apart := false }
def CheckerTariffsSaid : Prop := checkerTariffsRow.holds Try.pinned (OpenSpec.ofChange checkerTariffsSpec)

/-- ITS FALSE NEIGHBOUR: 'it returns false'. Refute it at one input. -/
def checkerTariffsWrong : ChangeSpec := { name := "checkerTariffs", fn := fun _ => fun
  | [d] => { results := [.lit (.bool false)], args := [d] }
  | _ => none }
def CheckerTariffsWrongFalsely : Prop := checkerTariffsRow.holds Try.pinned (OpenSpec.ofChange checkerTariffsWrong)

/-- 'billinglaw26.CheckerCovers': WHATEVER THE INPUT: true; the input reads as it did. -/
def checkerCoversSpec : ChangeSpec := { name := "checkerCovers", fn := fun _ => fun
  | [d1, d2] => { results := [.lit (.bool true)], args := [d1, d2] }
  | _ => none }
def checkerCoversRow : OpenClaim := { program := "ytcifbjgomflanaa", sum := "18a39a7d50521cdb70d710bc56bb30e0a9c767a20d5cd058ce5d9cde8a54607a", func := "billing/billinglaw26.CheckerCovers", spec := "checkerCovers", unfollowed := true, recurses := true, loops := true, apart := false }
def CheckerCoversSaid : Prop := checkerCoversRow.holds Try.pinned (OpenSpec.ofChange checkerCoversSpec)

/-- ITS FALSE NEIGHBOUR: 'it returns false'. Refute it at one input. -/
def checkerCoversWrong : ChangeSpec := { name := "checkerCovers", fn := fun _ => fun
  | [d1, d2] => { results := [.lit (.bool false)], args := [d1, d2] }
  | _ => none }
def CheckerCoversWrongFalsely : Prop := checkerCoversRow.holds Try.pinned (OpenSpec.ofChange checkerCoversWrong)

/-- 'billinglaw26.CheckerWhole': WHATEVER THE INPUT: true; the input reads as it did. -/
def checkerWholeSpec : ChangeSpec := { name := "checkerWhole", fn := fun _ => fun
  | [d1, d2, d3] => { results := [.lit (.bool true)], args := [d1, d2, d3] }
  | _ => none }
def checkerWholeRow : OpenClaim := { program := "ytcifbjgomflanaa", sum := "18a39a7d50521cdb70d710bc56bb30e0a9c767a20d5cd058ce5d9cde8a54607a", func := "billing/billinglaw26.CheckerWhole", spec := "checkerWhole", unfollowed := true, recurses := true, loops := true, apart := false }
def CheckerWholeSaid : Prop := checkerWholeRow.holds Try.pinned (OpenSpec.ofChange checkerWholeSpec)

/-- ITS FALSE NEIGHBOUR: 'it returns false'. Refute it at one input. -/
def checkerWholeWrong : ChangeSpec := { name := "checkerWhole", fn := fun _ => fun
  | [d1, d2, d3] => { results := [.lit (.bool false)], args := [d1, d2, d3] }
  | _ => none }
def CheckerWholeWrongFalsely : Prop := checkerWholeRow.holds Try.pinned (OpenSpec.ofChange checkerWholeWrong)

/- THE SECOND FORM. 'bulk': how many values and letters a reading holds, each counted each time it is reached (what is shared counts as often as it is met; a slice's spare places count too). A statement '..UptoSaid' is the law's where the arguments, and the package variables that the reading takes, are together of bulk at most 1048576: NARROWER than '..Said'. Prove '..Said' where nothing that the law and all that it calls make is longer than what came in: it says more and counts as full. Else prove '..UptoSaid'. A law counts once. -/
mutual
def uptoBulk {H : Type} : DataW H → Nat
  | .lit (.string bytes) => bytes.length + 1
  | .lit _ => 1
  | .nil => 1
  | .ptr d => uptoBulk d + 1
  | .slice elems spare => uptoBulkAll elems + uptoBulkAll spare + 1
  | .agg parts => uptoBulkAll parts + 1
  | .iface _ d => uptoBulk d + 1
  | .map entries => uptoBulkEntries entries + 1
  | .held _ => 1
def uptoBulkAll {H : Type} : List (DataW H) → Nat
  | [] => 0
  | d :: r => uptoBulk d + uptoBulkAll r
def uptoBulkEntries {H : Type} : List (Lit × DataW H) → Nat
  | [] => 0
  | x :: r => uptoBulkEntry x + uptoBulkEntries r
def uptoBulkEntry {H : Type} : Lit × DataW H → Nat
  | (.string bytes, d) => bytes.length + uptoBulk d + 1
  | (_, d) => uptoBulk d + 1
 end
def uptoSmall : (H : Type) → List (DataW H) → Bool := fun _ ds => decide (uptoBulkAll ds ≤ 1048576)
def OpenSpec.upto (s : _root_.Go.ChangeSpec) : _root_.Go.OpenSpec := { _root_.Go.OpenSpec.ofChange s with cond := some uptoSmall }

/-- 'billinglaw26.CheckerExprs', WHERE WHAT IT READS IS OF BULK AT MOST 1048576: true; the input reads as it did. -/
def checkerExprsUptoRow : OpenClaim := { program := "ytcifbjgomflanaa", sum := "18a39a7d50521cdb70d710bc56bb30e0a9c767a20d5cd058ce5d9cde8a54607a", func := "billing/billinglaw26.CheckerExprs", spec := "checkerExprs", unfollowed := true, recurses := true, loops := true, apart := false, narrowed := true }
def CheckerExprsUptoSaid : Prop := checkerExprsUptoRow.holds Try.pinned (OpenSpec.upto checkerExprsSpec)

/-- 'billinglaw26.CheckerOperands', WHERE WHAT IT READS IS OF BULK AT MOST 1048576: true; the input reads as it did. -/
def checkerOperandsUptoRow : OpenClaim := { program := "ytcifbjgomflanaa", sum := "18a39a7d50521cdb70d710bc56bb30e0a9c767a20d5cd058ce5d9cde8a54607a", func := "billing/billinglaw26.CheckerOperands", spec := "checkerOperands", unfollowed := true, recurses := true, loops := true, apart := false, narrowed := true }
def CheckerOperandsUptoSaid : Prop := checkerOperandsUptoRow.holds Try.pinned (OpenSpec.upto checkerOperandsSpec)

/-- 'billinglaw26.CheckerDepth', WHERE WHAT IT READS IS OF BULK AT MOST 1048576: true; the input reads as it did. -/
def checkerDepthUptoRow : OpenClaim := { program := "ytcifbjgomflanaa", sum := "18a39a7d50521cdb70d710bc56bb30e0a9c767a20d5cd058ce5d9cde8a54607a", func := "billing/billinglaw26.CheckerDepth", spec := "checkerDepth", unfollowed := true, recurses := true, apart := false, narrowed := true }
def CheckerDepthUptoSaid : Prop := checkerDepthUptoRow.holds Try.pinned (OpenSpec.upto checkerDepthSpec)

/-- 'billinglaw26.CheckerSteps', WHERE WHAT IT READS IS OF BULK AT MOST 1048576: true; the input reads as it did. -/
def checkerStepsUptoRow : OpenClaim := { program := "ytcifbjgomflanaa", sum := "18a39a7d50521cdb70d710bc56bb30e0a9c767a20d5cd058ce5d9cde8a54607a", func := "billing/billinglaw26.CheckerSteps", spec := "checkerSteps", unfollowed := true, recurses := true, apart := false, narrowed := true }
def CheckerStepsUptoSaid : Prop := checkerStepsUptoRow.holds Try.pinned (OpenSpec.upto checkerStepsSpec)

/-- 'billinglaw26.CheckerTariffs', WHERE WHAT IT READS IS OF BULK AT MOST 1048576: true; the input reads as it did. -/
def checkerTariffsUptoRow : OpenClaim := { program := "ytcifbjgomflanaa", sum := "18a39a7d50521cdb70d710bc56bb30e0a9c767a20d5cd058ce5d9cde8a54607a", func := "billing/billinglaw26.CheckerTariffs", spec := "checkerTariffs", unfollowed := true, recurses := true, loops := true, apart := false, narrowed := true }
def CheckerTariffsUptoSaid : Prop := checkerTariffsUptoRow.holds Try.pinned (OpenSpec.upto checkerTariffsSpec)

/-- 'billinglaw26.CheckerCovers', WHERE WHAT IT READS IS OF BULK AT MOST 1048576: true; the input reads as it did. -/
def checkerCoversUptoRow : OpenClaim := { program := "ytcifbjgomflanaa", sum := "18a39a7d50521cdb70d710bc56bb30e0a9c767a20d5cd058ce5d9cde8a54607a", func := "billing/billinglaw26.CheckerCovers", spec := "checkerCovers", unfollowed := true, recurses := true, loops := true, apart := false, narrowed := true }
def CheckerCoversUptoSaid : Prop := checkerCoversUptoRow.holds Try.pinned (OpenSpec.upto checkerCoversSpec)

/-- 'billinglaw26.CheckerWhole', WHERE WHAT IT READS IS OF BULK AT MOST 1048576: true; the input reads as it did. -/
def checkerWholeUptoRow : OpenClaim := { program := "ytcifbjgomflanaa", sum := "18a39a7d50521cdb70d710bc56bb30e0a9c767a20d5cd058ce5d9cde8a54607a", func := "billing/billinglaw26.CheckerWhole", spec := "checkerWhole", unfollowed := true, recurses := true, loops := true, apart := false, narrowed := true }
def CheckerWholeUptoSaid : Prop := checkerWholeUptoRow.holds Try.pinned (OpenSpec.upto checkerWholeSpec)

end Rows
end Go.Proofs.Ytcifbjgomflanaa
