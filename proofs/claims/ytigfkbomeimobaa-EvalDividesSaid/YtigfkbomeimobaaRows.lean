/-
  NARROWER THAN 'FOR EVERY INPUT', by the rows' own cells (each row's printed sentence says how): EvalNumbers: loops · EvalTexts: loops · EvalHolds: loops · EvalLogic: loops.
  DERIVED. THE GIVEN ROWS OF THIS SEAT. 7 by the template 'for every input the law returns true; each argument reads behind the call as it read before'; 0 by the template 'total and deterministic' (their statements: YtigfkbomeimobaaTotals.lean).
  GIVEN WITH THE SEED: the statements are not yours to turn. If you find one false, say at which input.
  Laid BY PROGRAM, IN A SANDBOX (cutbox-rows.mjs): the forced cells as the released guide's own fill.sh prints them over the translation 4f3604ecf324345c… (all of the seat's roots in one cut). By AI agents, Wed Nov 11 2026. No macro, syntax, notation, axiom, sorry.
-/
import Derived.Test.YtigfkbomeimobaaChecked
import GoSem.Claim
import GoSem.ClaimJoined
import GoSem.ClaimMapViews
import Derived.JoinedTies
import Derived.KernelRfl
namespace Go.Proofs.Ytigfkbomeimobaa
/- THE CELL 'sum', in the pinned program and in every row, IS THE sha256 OF THE DUMP (.gsa) THAT YtigfkbomeimobaaProg.lean LOADS. Nothing in Lean hashes anything: it is a label: what it is worth is what the hold of that sum in a sandbox is worth. -/
noncomputable def Try.pinned : Pinned := { name := "ytigfkbomeimobaa", sum := "4f3604ecf324345c369a69885246a1cb092c78be090ef1ad11445850f9acfaff", checked := Try.checked }
namespace Rows
def none {H : Type} : Left H := { results := [], args := [] }

/-- 'billinglaw27.EvalNumbers': WHATEVER THE INPUT: true; the input reads as it did. -/
def evalNumbersSpec : ChangeSpec := { name := "evalNumbers", fn := fun _ => fun
  | [d1, d2] => { results := [.lit (.bool true)], args := [d1, d2] }
  | _ => none }
def evalNumbersRow : OpenClaim := { program := "ytigfkbomeimobaa", sum := "4f3604ecf324345c369a69885246a1cb092c78be090ef1ad11445850f9acfaff", func := "billing/billinglaw27.EvalNumbers", spec := "evalNumbers", unfollowed := true, recurses := true, loops := true, apart := false }
def EvalNumbersSaid : Prop := evalNumbersRow.holds Try.pinned (OpenSpec.ofChange evalNumbersSpec)

/-- ITS FALSE NEIGHBOUR: 'it returns false'. Refute it at one input. -/
def evalNumbersWrong : ChangeSpec := { name := "evalNumbers", fn := fun _ => fun
  | [d1, d2] => { results := [.lit (.bool false)], args := [d1, d2] }
  | _ => none }
def EvalNumbersWrongFalsely : Prop := evalNumbersRow.holds Try.pinned (OpenSpec.ofChange evalNumbersWrong)

/-- 'billinglaw27.EvalTexts': WHATEVER THE INPUT: true; the input reads as it did. -/
def evalTextsSpec : ChangeSpec := { name := "evalTexts", fn := fun _ => fun
  | [d1, d2] => { results := [.lit (.bool true)], args := [d1, d2] }
  | _ => none }
def evalTextsRow : OpenClaim := { program := "ytigfkbomeimobaa", sum := "4f3604ecf324345c369a69885246a1cb092c78be090ef1ad11445850f9acfaff", func := "billing/billinglaw27.EvalTexts", spec := "evalTexts", unfollowed := true, recurses := true, loops := true, apart := false }
def EvalTextsSaid : Prop := evalTextsRow.holds Try.pinned (OpenSpec.ofChange evalTextsSpec)

/-- ITS FALSE NEIGHBOUR: 'it returns false'. Refute it at one input. -/
def evalTextsWrong : ChangeSpec := { name := "evalTexts", fn := fun _ => fun
  | [d1, d2] => { results := [.lit (.bool false)], args := [d1, d2] }
  | _ => none }
def EvalTextsWrongFalsely : Prop := evalTextsRow.holds Try.pinned (OpenSpec.ofChange evalTextsWrong)

/-- 'billinglaw27.EvalHolds': WHATEVER THE INPUT: true; the input reads as it did. -/
def evalHoldsSpec : ChangeSpec := { name := "evalHolds", fn := fun _ => fun
  | [d1, d2] => { results := [.lit (.bool true)], args := [d1, d2] }
  | _ => none }
def evalHoldsRow : OpenClaim := { program := "ytigfkbomeimobaa", sum := "4f3604ecf324345c369a69885246a1cb092c78be090ef1ad11445850f9acfaff", func := "billing/billinglaw27.EvalHolds", spec := "evalHolds", unfollowed := true, recurses := true, loops := true, apart := false }
def EvalHoldsSaid : Prop := evalHoldsRow.holds Try.pinned (OpenSpec.ofChange evalHoldsSpec)

/-- ITS FALSE NEIGHBOUR: 'it returns false'. Refute it at one input. -/
def evalHoldsWrong : ChangeSpec := { name := "evalHolds", fn := fun _ => fun
  | [d1, d2] => { results := [.lit (.bool false)], args := [d1, d2] }
  | _ => none }
def EvalHoldsWrongFalsely : Prop := evalHoldsRow.holds Try.pinned (OpenSpec.ofChange evalHoldsWrong)

/-- 'billinglaw27.EvalDivides': WHATEVER THE INPUT: true; the input reads as it did. -/
def evalDividesSpec : ChangeSpec := { name := "evalDivides", fn := fun _ => fun
  | [d1, d2] => { results := [.lit (.bool true)], args := [d1, d2] }
  | _ => none }
def evalDividesRow : OpenClaim := { program := "ytigfkbomeimobaa", sum := "4f3604ecf324345c369a69885246a1cb092c78be090ef1ad11445850f9acfaff", func := "billing/billinglaw27.EvalDivides", spec := "evalDivides", unfollowed := true, recurses := true, apart := false }
def EvalDividesSaid : Prop := evalDividesRow.holds Try.pinned (OpenSpec.ofChange evalDividesSpec)

/-- ITS FALSE NEIGHBOUR: 'it returns false'. Refute it at one input. -/
def evalDividesWrong : ChangeSpec := { name := "evalDivides", fn := fun _ => fun
  | [d1, d2] => { results := [.lit (.bool false)], args := [d1, d2] }
  | _ => none }
def EvalDividesWrongFalsely : Prop := evalDividesRow.holds Try.pinned (OpenSpec.ofChange evalDividesWrong)

/-- 'billinglaw27.EvalOrders': WHATEVER THE INPUT: true; the input reads as it did. -/
def evalOrdersSpec : ChangeSpec := { name := "evalOrders", fn := fun _ => fun
  | [d1, d2] => { results := [.lit (.bool true)], args := [d1, d2] }
  | _ => none }
def evalOrdersRow : OpenClaim := { program := "ytigfkbomeimobaa", sum := "4f3604ecf324345c369a69885246a1cb092c78be090ef1ad11445850f9acfaff", func := "billing/billinglaw27.EvalOrders", spec := "evalOrders", unfollowed := true, recurses := true, apart := false }
def EvalOrdersSaid : Prop := evalOrdersRow.holds Try.pinned (OpenSpec.ofChange evalOrdersSpec)

/-- ITS FALSE NEIGHBOUR: 'it returns false'. Refute it at one input. -/
def evalOrdersWrong : ChangeSpec := { name := "evalOrders", fn := fun _ => fun
  | [d1, d2] => { results := [.lit (.bool false)], args := [d1, d2] }
  | _ => none }
def EvalOrdersWrongFalsely : Prop := evalOrdersRow.holds Try.pinned (OpenSpec.ofChange evalOrdersWrong)

/-- 'billinglaw27.EvalLogic': WHATEVER THE INPUT: true; the input reads as it did. -/
def evalLogicSpec : ChangeSpec := { name := "evalLogic", fn := fun _ => fun
  | [d1, d2, d3] => { results := [.lit (.bool true)], args := [d1, d2, d3] }
  | _ => none }
def evalLogicRow : OpenClaim := { program := "ytigfkbomeimobaa", sum := "4f3604ecf324345c369a69885246a1cb092c78be090ef1ad11445850f9acfaff", func := "billing/billinglaw27.EvalLogic", spec := "evalLogic", unfollowed := true, recurses := true, loops := true, apart := false }
def EvalLogicSaid : Prop := evalLogicRow.holds Try.pinned (OpenSpec.ofChange evalLogicSpec)

/-- ITS FALSE NEIGHBOUR: 'it returns false'. Refute it at one input. -/
def evalLogicWrong : ChangeSpec := { name := "evalLogic", fn := fun _ => fun
  | [d1, d2, d3] => { results := [.lit (.bool false)], args := [d1, d2, d3] }
  | _ => none }
def EvalLogicWrongFalsely : Prop := evalLogicRow.holds Try.pinned (OpenSpec.ofChange evalLogicWrong)

/-- 'billinglaw27.EvalSums': WHATEVER THE INPUT: true; the input reads as it did. -/
def evalSumsSpec : ChangeSpec := { name := "evalSums", fn := fun _ => fun
  | [d1, d2] => { results := [.lit (.bool true)], args := [d1, d2] }
  | _ => none }
def evalSumsRow : OpenClaim := { program := "ytigfkbomeimobaa", sum := "4f3604ecf324345c369a69885246a1cb092c78be090ef1ad11445850f9acfaff", func := "billing/billinglaw27.EvalSums", spec := "evalSums", unfollowed := true, recurses := true, apart := false }
def EvalSumsSaid : Prop := evalSumsRow.holds Try.pinned (OpenSpec.ofChange evalSumsSpec)

/-- ITS FALSE NEIGHBOUR: 'it returns false'. Refute it at one input. -/
def evalSumsWrong : ChangeSpec := { name := "evalSums", fn := fun _ => fun
  | [d1, d2] => { results := [.lit (.bool false)], args := [d1, d2] }
  | _ => none }
def EvalSumsWrongFalsely : Prop := evalSumsRow.holds Try.pinned (OpenSpec.ofChange evalSumsWrong)

/- THE SECOND FORM. 'bulk': how many values and letters a reading holds, each counted each time it is reached (what is shared counts as often as it is met; a slice's spare places count too). A statement '..UptoSaid' is the law's where the arguments, and the package variables that the reading takes, are together of bulk at most 1048576: NARROWER than '..Said'. Prove '..Said' where nothing that the law and all that it calls make is longer than what came in: it says more and counts as full. Else prove '..UptoSaid'. A law counts once. -/
mutual
def uptoBulk {H : Type} : DataW H → Nat
  | .lit (.string bytes) => bytes.length + 1
  | .lit _ => 1
  | .nil => 1
  | .ptr d => uptoBulk d + 1
  | .slice elems spare => uptoBulkAll elems + uptoBulkAll spare + 1
  | .agg parts => uptoBulkAll parts + 1
  | .iface _ d => uptoBulk d + 1
  | .map entries => uptoBulkEntries entries + 1
  | .held _ => 1
def uptoBulkAll {H : Type} : List (DataW H) → Nat
  | [] => 0
  | d :: r => uptoBulk d + uptoBulkAll r
def uptoBulkEntries {H : Type} : List (Lit × DataW H) → Nat
  | [] => 0
  | x :: r => uptoBulkEntry x + uptoBulkEntries r
def uptoBulkEntry {H : Type} : Lit × DataW H → Nat
  | (.string bytes, d) => bytes.length + uptoBulk d + 1
  | (_, d) => uptoBulk d + 1
 end
def uptoSmall : (H : Type) → List (DataW H) → Bool := fun _ ds => decide (uptoBulkAll ds ≤ 1048576)
def OpenSpec.upto (s : _root_.Go.ChangeSpec) : _root_.Go.OpenSpec := { _root_.Go.OpenSpec.ofChange s with cond := some uptoSmall }

/-- 'billinglaw27.EvalNumbers', WHERE WHAT IT READS IS OF BULK AT MOST 1048576: true; the input reads as it did. -/
def evalNumbersUptoRow : OpenClaim := { program := "ytigfkbomeimobaa", sum := "4f3604ecf324345c369a69885246a1cb092c78be090ef1ad11445850f9acfaff", func := "billing/billinglaw27.EvalNumbers", spec := "evalNumbers", unfollowed := true, recurses := true, loops := true, apart := false, narrowed := true }
def EvalNumbersUptoSaid : Prop := evalNumbersUptoRow.holds Try.pinned (OpenSpec.upto evalNumbersSpec)

/-- 'billinglaw27.EvalTexts', WHERE WHAT IT READS IS OF BULK AT MOST 1048576: true; the input reads as it did. -/
def evalTextsUptoRow : OpenClaim := { program := "ytigfkbomeimobaa", sum := "4f3604ecf324345c369a69885246a1cb092c78be090ef1ad11445850f9acfaff", func := "billing/billinglaw27.EvalTexts", spec := "evalTexts", unfollowed := true, recurses := true, loops := true, apart := false, narrowed := true }
def EvalTextsUptoSaid : Prop := evalTextsUptoRow.holds Try.pinned (OpenSpec.upto evalTextsSpec)

/-- 'billinglaw27.EvalHolds', WHERE WHAT IT READS IS OF BULK AT MOST 1048576: true; the input reads as it did. -/
def evalHoldsUptoRow : OpenClaim := { program := "ytigfkbomeimobaa", sum := "4f3604ecf324345c369a69885246a1cb092c78be090ef1ad11445850f9acfaff", func := "billing/billinglaw27.EvalHolds", spec := "evalHolds", unfollowed := true, recurses := true, loops := true, apart := false, narrowed := true }
def EvalHoldsUptoSaid : Prop := evalHoldsUptoRow.holds Try.pinned (OpenSpec.upto evalHoldsSpec)

/-- 'billinglaw27.EvalDivides', WHERE WHAT IT READS IS OF BULK AT MOST 1048576: true; the input reads as it did. -/
def evalDividesUptoRow : OpenClaim := { program := "ytigfkbomeimobaa", sum := "4f3604ecf324345c369a69885246a1cb092c78be090ef1ad11445850f9acfaff", func := "billing/billinglaw27.EvalDivides", spec := "evalDivides", unfollowed := true, recurses := true, apart := false, narrowed := true }
def EvalDividesUptoSaid : Prop := evalDividesUptoRow.holds Try.pinned (OpenSpec.upto evalDividesSpec)

/-- 'billinglaw27.EvalOrders', WHERE WHAT IT READS IS OF BULK AT MOST 1048576: true; the input reads as it did. -/
def evalOrdersUptoRow : OpenClaim := { program := "ytigfkbomeimobaa", sum := "4f3604ecf324345c369a69885246a1cb092c78be090ef1ad11445850f9acfaff", func := "billing/billinglaw27.EvalOrders", spec := "evalOrders", unfollowed := true, recurses := true, apart := false, narrowed := true }
def EvalOrdersUptoSaid : Prop := evalOrdersUptoRow.holds Try.pinned (OpenSpec.upto evalOrdersSpec)

/-- 'billinglaw27.EvalLogic', WHERE WHAT IT READS IS OF BULK AT MOST 1048576: true; the input reads as it did. -/
def evalLogicUptoRow : OpenClaim := { program := "ytigfkbomeimobaa", sum := "4f3604ecf324345c369a69885246a1cb092c78be090ef1ad11445850f9acfaff", func := "billing/billinglaw27.EvalLogic", spec := "evalLogic", unfollowed := true, recurses := true, loops := true, apart := false, narrowed := true }
def EvalLogicUptoSaid : Prop := evalLogicUptoRow.holds Try.pinned (OpenSpec.upto evalLogicSpec)

/-- 'billinglaw27.EvalSums', WHERE WHAT IT READS IS OF BULK AT MOST 1048576: true; the input reads as it did. -/
def evalSumsUptoRow : OpenClaim := { program := "ytigfkbomeimobaa", sum := "4f3604ecf324345c369a69885246a1cb092c78be090ef1ad11445850f9acfaff", func := "billing/billinglaw27.EvalSums", spec := "evalSums", unfollowed := true, recurses := true, apart := false, narrowed := true }
def EvalSumsUptoSaid : Prop := evalSumsUptoRow.holds Try.pinned (OpenSpec.upto evalSumsSpec)

end Rows
end Go.Proofs.Ytigfkbomeimobaa
