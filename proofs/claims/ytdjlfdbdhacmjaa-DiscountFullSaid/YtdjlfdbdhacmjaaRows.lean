/-
  NARROWER THAN 'FOR EVERY INPUT', by the rows' own cells (each row's printed sentence says how): DiscountApplies: loops · DiscountSums: loops · DiscountFull: loops · DiscountParts: loops · DiscountChosen: loops.
  DERIVED. THE GIVEN ROWS OF THIS SEAT. 6 by the template 'for every input the law returns true; each argument reads behind the call as it read before'; 0 by the template 'total and deterministic' (their statements: YtdjlfdbdhacmjaaTotals.lean).
  GIVEN WITH THE SEED: the statements are not yours to turn. If you find one false, say at which input.
  Laid BY PROGRAM, IN A SANDBOX (cutbox-rows.mjs): the forced cells as the released guide's own fill.sh prints them over the translation e03b8d0043256f32… (all of the seat's roots in one cut). By AI agents, Wed Nov 11 2026. No macro, syntax, notation, axiom, sorry.
-/
import Derived.Test.YtdjlfdbdhacmjaaChecked
import GoSem.Claim
import GoSem.ClaimJoined
import GoSem.ClaimMapViews
import Derived.JoinedTies
import Derived.KernelRfl
namespace Go.Proofs.Ytdjlfdbdhacmjaa
/- THE CELL 'sum', in the pinned program and in every row, IS THE sha256 OF THE DUMP (.gsa) THAT YtdjlfdbdhacmjaaProg.lean LOADS. Nothing in Lean hashes anything: it is a label: what it is worth is what the hold of that sum in a sandbox is worth. -/
noncomputable def Try.pinned : Pinned := { name := "ytdjlfdbdhacmjaa", sum := "e03b8d0043256f320a75fd7796739cd8d7f33273fcbad4f9a13cea4044648716", checked := Try.checked }
namespace Rows
def none {H : Type} : Left H := { results := [], args := [] }

/-- 'billinglaw31.DiscountEnv': WHATEVER THE INPUT: true; the input reads as it did. -/
def discountEnvSpec : ChangeSpec := { name := "discountEnv", fn := fun _ => fun
  | [d1, d2] => { results := [.lit (.bool true)], args := [d1, d2] }
  | _ => none }
def discountEnvRow : OpenClaim := { program := "ytdjlfdbdhacmjaa", sum := "e03b8d0043256f320a75fd7796739cd8d7f33273fcbad4f9a13cea4044648716", func := "billing/billinglaw31.DiscountEnv", spec := "discountEnv", unfollowed := true, recurses := true, apart := false }
def DiscountEnvSaid : Prop := discountEnvRow.holds Try.pinned (OpenSpec.ofChange discountEnvSpec)

/-- ITS FALSE NEIGHBOUR: 'it returns false'. Refute it at one input. -/
def discountEnvWrong : ChangeSpec := { name := "discountEnv", fn := fun _ => fun
  | [d1, d2] => { results := [.lit (.bool false)], args := [d1, d2] }
  | _ => none }
def DiscountEnvWrongFalsely : Prop := discountEnvRow.holds Try.pinned (OpenSpec.ofChange discountEnvWrong)

/-- 'billinglaw31.DiscountApplies': WHATEVER THE INPUT: true; the input reads as it did. -/
def discountAppliesSpec : ChangeSpec := { name := "discountApplies", fn := fun _ => fun
  | [d1, d2, d3] => { results := [.lit (.bool true)], args := [d1, d2, d3] }
  | _ => none }
def discountAppliesRow : OpenClaim := { program := "ytdjlfdbdhacmjaa", sum := "e03b8d0043256f320a75fd7796739cd8d7f33273fcbad4f9a13cea4044648716", func := "billing/billinglaw31.DiscountApplies", spec := "discountApplies", unfollowed := true, recurses := true, loops := true, apart := false }
def DiscountAppliesSaid : Prop := discountAppliesRow.holds Try.pinned (OpenSpec.ofChange discountAppliesSpec)

/-- ITS FALSE NEIGHBOUR: 'it returns false'. Refute it at one input. -/
def discountAppliesWrong : ChangeSpec := { name := "discountApplies", fn := fun _ => fun
  | [d1, d2, d3] => { results := [.lit (.bool false)], args := [d1, d2, d3] }
  | _ => none }
def DiscountAppliesWrongFalsely : Prop := discountAppliesRow.holds Try.pinned (OpenSpec.ofChange discountAppliesWrong)

/-- 'billinglaw31.DiscountSums': WHATEVER THE INPUT: true; the input reads as it did. -/
def discountSumsSpec : ChangeSpec := { name := "discountSums", fn := fun _ => fun
  | [d1, d2, d3] => { results := [.lit (.bool true)], args := [d1, d2, d3] }
  | _ => none }
def discountSumsRow : OpenClaim := { program := "ytdjlfdbdhacmjaa", sum := "e03b8d0043256f320a75fd7796739cd8d7f33273fcbad4f9a13cea4044648716", func := "billing/billinglaw31.DiscountSums", spec := "discountSums", unfollowed := true, recurses := true, loops := true, apart := false }
def DiscountSumsSaid : Prop := discountSumsRow.holds Try.pinned (OpenSpec.ofChange discountSumsSpec)

/-- ITS FALSE NEIGHBOUR: 'it returns false'. Refute it at one input. -/
def discountSumsWrong : ChangeSpec := { name := "discountSums", fn := fun _ => fun
  | [d1, d2, d3] => { results := [.lit (.bool false)], args := [d1, d2, d3] }
  | _ => none }
def DiscountSumsWrongFalsely : Prop := discountSumsRow.holds Try.pinned (OpenSpec.ofChange discountSumsWrong)

/-- 'billinglaw31.DiscountFull': WHATEVER THE INPUT: true; the input reads as it did. -/
def discountFullSpec : ChangeSpec := { name := "discountFull", fn := fun _ => fun
  | [d1, d2, d3] => { results := [.lit (.bool true)], args := [d1, d2, d3] }
  | _ => none }
def discountFullRow : OpenClaim := { program := "ytdjlfdbdhacmjaa", sum := "e03b8d0043256f320a75fd7796739cd8d7f33273fcbad4f9a13cea4044648716", func := "billing/billinglaw31.DiscountFull", spec := "discountFull", unfollowed := true, recurses := true, loops := true, apart := false }
def DiscountFullSaid : Prop := discountFullRow.holds Try.pinned (OpenSpec.ofChange discountFullSpec)

/-- ITS FALSE NEIGHBOUR: 'it returns false'. Refute it at one input. -/
def discountFullWrong : ChangeSpec := { name := "discountFull", fn := fun _ => fun
  | [d1, d2, d3] => { results := [.lit (.bool false)], args := [d1, d2, d3] }
  | _ => none }
def DiscountFullWrongFalsely : Prop := discountFullRow.holds Try.pinned (OpenSpec.ofChange discountFullWrong)

/-- 'billinglaw31.DiscountParts': WHATEVER THE INPUT: true; the input reads as it did. -/
def discountPartsSpec : ChangeSpec := { name := "discountParts", fn := fun _ => fun
  | [d1, d2, d3] => { results := [.lit (.bool true)], args := [d1, d2, d3] }
  | _ => none }
def discountPartsRow : OpenClaim := { program := "ytdjlfdbdhacmjaa", sum := "e03b8d0043256f320a75fd7796739cd8d7f33273fcbad4f9a13cea4044648716", func := "billing/billinglaw31.DiscountParts", spec := "discountParts", unfollowed := true, recurses := true, loops := true, apart := false }
def DiscountPartsSaid : Prop := discountPartsRow.holds Try.pinned (OpenSpec.ofChange discountPartsSpec)

/-- ITS FALSE NEIGHBOUR: 'it returns false'. Refute it at one input. -/
def discountPartsWrong : ChangeSpec := { name := "discountParts", fn := fun _ => fun
  | [d1, d2, d3] => { results := [.lit (.bool false)], args := [d1, d2, d3] }
  | _ => none }
def DiscountPartsWrongFalsely : Prop := discountPartsRow.holds Try.pinned (OpenSpec.ofChange discountPartsWrong)

/-- 'billinglaw31.DiscountChosen': WHATEVER THE INPUT: true; the input reads as it did. -/
def discountChosenSpec : ChangeSpec := { name := "discountChosen", fn := fun _ => fun
  | [d1, d2, d3] => { results := [.lit (.bool true)], args := [d1, d2, d3] }
  | _ => none }
def discountChosenRow : OpenClaim := { program := "ytdjlfdbdhacmjaa", sum := "e03b8d0043256f320a75fd7796739cd8d7f33273fcbad4f9a13cea4044648716", func := "billing/billinglaw31.DiscountChosen", spec := "discountChosen", unfollowed := true, recurses := true, loops := true, apart := false }
def DiscountChosenSaid : Prop := discountChosenRow.holds Try.pinned (OpenSpec.ofChange discountChosenSpec)

/-- ITS FALSE NEIGHBOUR: 'it returns false'. Refute it at one input. -/
def discountChosenWrong : ChangeSpec := { name := "discountChosen", fn := fun _ => fun
  | [d1, d2, d3] => { results := [.lit (.bool false)], args := [d1, d2, d3] }
  | _ => none }
def DiscountChosenWrongFalsely : Prop := discountChosenRow.holds Try.pinned (OpenSpec.ofChange discountChosenWrong)

/- THE SECOND FORM. 'bulk': how many values and letters a reading holds, each counted each time it is reached (what is shared counts as often as it is met; a slice's spare places count too). A statement '..UptoSaid' is the law's where the arguments, and the package variables that the reading takes, are together of bulk at most 1048576: NARROWER than '..Said'. Prove '..Said' where nothing that the law and all that it calls make is longer than what came in: it says more and counts as full. Else prove '..UptoSaid'. A law counts once. -/
mutual
def uptoBulk {H : Type} : DataW H → Nat
  | .lit (.string bytes) => bytes.length + 1
  | .lit _ => 1
  | .nil => 1
  | .ptr d => uptoBulk d + 1
  | .slice elems spare => uptoBulkAll elems + uptoBulkAll spare + 1
  | .agg parts => uptoBulkAll parts + 1
  | .iface _ d => uptoBulk d + 1
  | .map entries => uptoBulkEntries entries + 1
  | .held _ => 1
def uptoBulkAll {H : Type} : List (DataW H) → Nat
  | [] => 0
  | d :: r => uptoBulk d + uptoBulkAll r
def uptoBulkEntries {H : Type} : List (Lit × DataW H) → Nat
  | [] => 0
  | x :: r => uptoBulkEntry x + uptoBulkEntries r
def uptoBulkEntry {H : Type} : Lit × DataW H → Nat
  | (.string bytes, d) => bytes.length + uptoBulk d + 1
  | (_, d) => uptoBulk d + 1
 end
def uptoSmall : (H : Type) → List (DataW H) → Bool := fun _ ds => decide (uptoBulkAll ds ≤ 1048576)
def OpenSpec.upto (s : _root_.Go.ChangeSpec) : _root_.Go.OpenSpec := { _root_.Go.OpenSpec.ofChange s with cond := some uptoSmall }

/-- 'billinglaw31.DiscountEnv', WHERE WHAT IT READS IS OF BULK AT MOST 1048576: true; the input reads as it did. -/
def discountEnvUptoRow : OpenClaim := { program := "ytdjlfdbdhacmjaa", sum := "e03b8d0043256f320a75fd7796739cd8d7f33273fcbad4f9a13cea4044648716", func := "billing/billinglaw31.DiscountEnv", spec := "discountEnv", unfollowed := true, recurses := true, apart := false, narrowed := true }
def DiscountEnvUptoSaid : Prop := discountEnvUptoRow.holds Try.pinned (OpenSpec.upto discountEnvSpec)

/-- 'billinglaw31.DiscountApplies', WHERE WHAT IT READS IS OF BULK AT MOST 1048576: true; the input reads as it did. -/
def discountAppliesUptoRow : OpenClaim := { program := "ytdjlfdbdhacmjaa", sum := "e03b8d0043256f320a75fd7796739cd8d7f33273fcbad4f9a13cea4044648716", func := "billing/billinglaw31.DiscountApplies", spec := "discountApplies", unfollowed := true, recurses := true, loops := true, apart := false, narrowed := true }
def DiscountAppliesUptoSaid : Prop := discountAppliesUptoRow.holds Try.pinned (OpenSpec.upto discountAppliesSpec)

/-- 'billinglaw31.DiscountSums', WHERE WHAT IT READS IS OF BULK AT MOST 1048576: true; the input reads as it did. -/
def discountSumsUptoRow : OpenClaim := { program := "ytdjlfdbdhacmjaa", sum := "e03b8d0043256f320a75fd7796739cd8d7f33273fcbad4f9a13cea4044648716", func := "billing/billinglaw31.DiscountSums", spec := "discountSums", unfollowed := true, recurses := true, loops := true, apart := false, narrowed := true }
def DiscountSumsUptoSaid : Prop := discountSumsUptoRow.holds Try.pinned (OpenSpec.upto discountSumsSpec)

/-- 'billinglaw31.DiscountFull', WHERE WHAT IT READS IS OF BULK AT MOST 1048576: true; the input reads as it did. -/
def discountFullUptoRow : OpenClaim := { program := "ytdjlfdbdhacmjaa", sum := "e03b8d0043256f320a75fd7796739cd8d7f33273fcbad4f9a13cea4044648716", func := "billing/billinglaw31.DiscountFull", spec := "discountFull", unfollowed := true, recurses := true, loops := true, apart := false, narrowed := true }
def DiscountFullUptoSaid : Prop := discountFullUptoRow.holds Try.pinned (OpenSpec.upto discountFullSpec)

/-- 'billinglaw31.DiscountParts', WHERE WHAT IT READS IS OF BULK AT MOST 1048576: true; the input reads as it did. -/
def discountPartsUptoRow : OpenClaim := { program := "ytdjlfdbdhacmjaa", sum := "e03b8d0043256f320a75fd7796739cd8d7f33273fcbad4f9a13cea4044648716", func := "billing/billinglaw31.DiscountParts", spec := "discountParts", unfollowed := true, recurses := true, loops := true, apart := false, narrowed := true }
def DiscountPartsUptoSaid : Prop := discountPartsUptoRow.holds Try.pinned (OpenSpec.upto discountPartsSpec)

/-- 'billinglaw31.DiscountChosen', WHERE WHAT IT READS IS OF BULK AT MOST 1048576: true; the input reads as it did. -/
def discountChosenUptoRow : OpenClaim := { program := "ytdjlfdbdhacmjaa", sum := "e03b8d0043256f320a75fd7796739cd8d7f33273fcbad4f9a13cea4044648716", func := "billing/billinglaw31.DiscountChosen", spec := "discountChosen", unfollowed := true, recurses := true, loops := true, apart := false, narrowed := true }
def DiscountChosenUptoSaid : Prop := discountChosenUptoRow.holds Try.pinned (OpenSpec.upto discountChosenSpec)

end Rows
end Go.Proofs.Ytdjlfdbdhacmjaa
