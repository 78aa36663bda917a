/-
  No cell of these rows narrows 'for every input' (looked for: loops, veiled, ifaces, maps, wideKeys, modest, calm, conditions, laid).
  DERIVED. THE GIVEN ROWS OF THIS SEAT. 18 by the template 'for every input the law returns true; each argument reads behind the call as it read before'; 0 by the template 'total and deterministic' (their statements: YteaanngagcflhaaTotals.lean).
  GIVEN WITH THE SEED: the statements are not yours to turn. If you find one false, say at which input.
  Laid BY PROGRAM, IN A SANDBOX (cutbox-rows.mjs): the forced cells as the released guide's own fill.sh prints them over the translation 08a2cf085c1b060f… (all of the seat's roots in one cut). By AI agents, Wed Nov 11 2026. No macro, syntax, notation, axiom, sorry.
-/
import Derived.Test.YteaanngagcflhaaChecked
import GoSem.Claim
import GoSem.ClaimJoined
import GoSem.ClaimMapViews
import Derived.JoinedTies
import Derived.KernelRfl
namespace Go.Proofs.Yteaanngagcflhaa
/- THE CELL 'sum', in the pinned program and in every row, IS THE sha256 OF THE DUMP (.gsa) THAT YteaanngagcflhaaProg.lean LOADS. Nothing in Lean hashes anything: it is a label: what it is worth is what the hold of that sum in a sandbox is worth. -/
noncomputable def Try.pinned : Pinned := { name := "yteaanngagcflhaa", sum := "08a2cf085c1b060f90f745ecc168df5bc1208087fba947122eee3b417d84d78e", checked := Try.checked }
namespace Rows
def none {H : Type} : Left H := { results := [], args := [] }

/-- 'billinglaw17.CustomerChecks': WHATEVER THE INPUT: true; the input reads as it did. -/
def customerChecksSpec : ChangeSpec := { name := "customerChecks", fn := fun _ => fun
  | [d] => { results := [.lit (.bool true)], args := [d] }
  | _ => none }
def customerChecksRow : OpenClaim := { program := "yteaanngagcflhaa", sum := "08a2cf085c1b060f90f745ecc168df5bc1208087fba947122eee3b417d84d78e", func := "billing/billinglaw17.CustomerChecks", spec := "customerChecks", unfollowed := true, recurses := true, apart := false }
def CustomerChecksSaid : Prop := customerChecksRow.holds Try.pinned (OpenSpec.ofChange customerChecksSpec)

/-- ITS FALSE NEIGHBOUR: 'it returns false'. Refute it at one input. -/
def customerChecksWrong : ChangeSpec := { name := "customerChecks", fn := fun _ => fun
  | [d] => { results := [.lit (.bool false)], args := [d] }
  | _ => none }
def CustomerChecksWrongFalsely : Prop := customerChecksRow.holds Try.pinned (OpenSpec.ofChange customerChecksWrong)

/-- 'billinglaw17.CustomerStates': WHATEVER THE INPUT: true; the input reads as it did. -/
def customerStatesSpec : ChangeSpec := { name := "customerStates", fn := fun _ => fun
  | [d1, d2] => { results := [.lit (.bool true)], args := [d1, d2] }
  | _ => none }
def customerStatesRow : OpenClaim := { program := "yteaanngagcflhaa", sum := "08a2cf085c1b060f90f745ecc168df5bc1208087fba947122eee3b417d84d78e", func := "billing/billinglaw17.CustomerStates", spec := "customerStates", unfollowed := true, recurses := true, apart := false }
def CustomerStatesSaid : Prop := customerStatesRow.holds Try.pinned (OpenSpec.ofChange customerStatesSpec)

/-- ITS FALSE NEIGHBOUR: 'it returns false'. Refute it at one input. -/
def customerStatesWrong : ChangeSpec := { name := "customerStates", fn := fun _ => fun
  | [d1, d2] => { results := [.lit (.bool false)], args := [d1, d2] }
  | _ => none }
def CustomerStatesWrongFalsely : Prop := customerStatesRow.holds Try.pinned (OpenSpec.ofChange customerStatesWrong)

/-- 'billinglaw17.CustomerInserts': WHATEVER THE INPUT: true; the input reads as it did. -/
def customerInsertsSpec : ChangeSpec := { name := "customerInserts", fn := fun _ => fun
  | [d1, d2] => { results := [.lit (.bool true)], args := [d1, d2] }
  | _ => none }
def customerInsertsRow : OpenClaim := { program := "yteaanngagcflhaa", sum := "08a2cf085c1b060f90f745ecc168df5bc1208087fba947122eee3b417d84d78e", func := "billing/billinglaw17.CustomerInserts", spec := "customerInserts", unfollowed := true, recurses := true, apart := false }
def CustomerInsertsSaid : Prop := customerInsertsRow.holds Try.pinned (OpenSpec.ofChange customerInsertsSpec)

/-- ITS FALSE NEIGHBOUR: 'it returns false'. Refute it at one input. -/
def customerInsertsWrong : ChangeSpec := { name := "customerInserts", fn := fun _ => fun
  | [d1, d2] => { results := [.lit (.bool false)], args := [d1, d2] }
  | _ => none }
def CustomerInsertsWrongFalsely : Prop := customerInsertsRow.holds Try.pinned (OpenSpec.ofChange customerInsertsWrong)

/-- 'billinglaw17.CustomerPast': WHATEVER THE INPUT: true; the input reads as it did. -/
def customerPastSpec : ChangeSpec := { name := "customerPast", fn := fun _ => fun
  | [d1, d2] => { results := [.lit (.bool true)], args := [d1, d2] }
  | _ => none }
def customerPastRow : OpenClaim := { program := "yteaanngagcflhaa", sum := "08a2cf085c1b060f90f745ecc168df5bc1208087fba947122eee3b417d84d78e", func := "billing/billinglaw17.CustomerPast", spec := "customerPast", unfollowed := true, recurses := true, apart := false }
def CustomerPastSaid : Prop := customerPastRow.holds Try.pinned (OpenSpec.ofChange customerPastSpec)

/-- ITS FALSE NEIGHBOUR: 'it returns false'. Refute it at one input. -/
def customerPastWrong : ChangeSpec := { name := "customerPast", fn := fun _ => fun
  | [d1, d2] => { results := [.lit (.bool false)], args := [d1, d2] }
  | _ => none }
def CustomerPastWrongFalsely : Prop := customerPastRow.holds Try.pinned (OpenSpec.ofChange customerPastWrong)

/-- 'billinglaw17.CustomerUndoes': WHATEVER THE INPUT: true; the input reads as it did. -/
def customerUndoesSpec : ChangeSpec := { name := "customerUndoes", fn := fun _ => fun
  | [d1, d2, d3] => { results := [.lit (.bool true)], args := [d1, d2, d3] }
  | _ => none }
def customerUndoesRow : OpenClaim := { program := "yteaanngagcflhaa", sum := "08a2cf085c1b060f90f745ecc168df5bc1208087fba947122eee3b417d84d78e", func := "billing/billinglaw17.CustomerUndoes", spec := "customerUndoes", unfollowed := true, recurses := true, apart := false }
def CustomerUndoesSaid : Prop := customerUndoesRow.holds Try.pinned (OpenSpec.ofChange customerUndoesSpec)

/-- ITS FALSE NEIGHBOUR: 'it returns false'. Refute it at one input. -/
def customerUndoesWrong : ChangeSpec := { name := "customerUndoes", fn := fun _ => fun
  | [d1, d2, d3] => { results := [.lit (.bool false)], args := [d1, d2, d3] }
  | _ => none }
def CustomerUndoesWrongFalsely : Prop := customerUndoesRow.holds Try.pinned (OpenSpec.ofChange customerUndoesWrong)

/-- 'billinglaw17.CustomerFinds': WHATEVER THE INPUT: true; the input reads as it did. -/
def customerFindsSpec : ChangeSpec := { name := "customerFinds", fn := fun _ => fun
  | [d1, d2, d3] => { results := [.lit (.bool true)], args := [d1, d2, d3] }
  | _ => none }
def customerFindsRow : OpenClaim := { program := "yteaanngagcflhaa", sum := "08a2cf085c1b060f90f745ecc168df5bc1208087fba947122eee3b417d84d78e", func := "billing/billinglaw17.CustomerFinds", spec := "customerFinds", unfollowed := true, recurses := true, apart := false }
def CustomerFindsSaid : Prop := customerFindsRow.holds Try.pinned (OpenSpec.ofChange customerFindsSpec)

/-- ITS FALSE NEIGHBOUR: 'it returns false'. Refute it at one input. -/
def customerFindsWrong : ChangeSpec := { name := "customerFinds", fn := fun _ => fun
  | [d1, d2, d3] => { results := [.lit (.bool false)], args := [d1, d2, d3] }
  | _ => none }
def CustomerFindsWrongFalsely : Prop := customerFindsRow.holds Try.pinned (OpenSpec.ofChange customerFindsWrong)

/-- 'billinglaw17.CustomerLinks': WHATEVER THE INPUT: true; the input reads as it did. -/
def customerLinksSpec : ChangeSpec := { name := "customerLinks", fn := fun _ => fun
  | [d1, d2] => { results := [.lit (.bool true)], args := [d1, d2] }
  | _ => none }
def customerLinksRow : OpenClaim := { program := "yteaanngagcflhaa", sum := "08a2cf085c1b060f90f745ecc168df5bc1208087fba947122eee3b417d84d78e", func := "billing/billinglaw17.CustomerLinks", spec := "customerLinks", unfollowed := true, recurses := true, apart := false }
def CustomerLinksSaid : Prop := customerLinksRow.holds Try.pinned (OpenSpec.ofChange customerLinksSpec)

/-- ITS FALSE NEIGHBOUR: 'it returns false'. Refute it at one input. -/
def customerLinksWrong : ChangeSpec := { name := "customerLinks", fn := fun _ => fun
  | [d1, d2] => { results := [.lit (.bool false)], args := [d1, d2] }
  | _ => none }
def CustomerLinksWrongFalsely : Prop := customerLinksRow.holds Try.pinned (OpenSpec.ofChange customerLinksWrong)

/-- 'billinglaw18.NumberingOwners': WHATEVER THE INPUT: true; the input reads as it did. -/
def numberingOwnersSpec : ChangeSpec := { name := "numberingOwners", fn := fun _ => fun
  | [d1, d2, d3] => { results := [.lit (.bool true)], args := [d1, d2, d3] }
  | _ => none }
def numberingOwnersRow : OpenClaim := { program := "yteaanngagcflhaa", sum := "08a2cf085c1b060f90f745ecc168df5bc1208087fba947122eee3b417d84d78e", func := "billing/billinglaw18.NumberingOwners", spec := "numberingOwners", unfollowed := true, recurses := true, apart := false }
def NumberingOwnersSaid : Prop := numberingOwnersRow.holds Try.pinned (OpenSpec.ofChange numberingOwnersSpec)

/-- ITS FALSE NEIGHBOUR: 'it returns false'. Refute it at one input. -/
def numberingOwnersWrong : ChangeSpec := { name := "numberingOwners", fn := fun _ => fun
  | [d1, d2, d3] => { results := [.lit (.bool false)], args := [d1, d2, d3] }
  | _ => none }
def NumberingOwnersWrongFalsely : Prop := numberingOwnersRow.holds Try.pinned (OpenSpec.ofChange numberingOwnersWrong)

/-- 'billinglaw18.NumberingSpells': WHATEVER THE INPUT: true; the input reads as it did. -/
def numberingSpellsSpec : ChangeSpec := { name := "numberingSpells", fn := fun _ => fun
  | [d1, d2] => { results := [.lit (.bool true)], args := [d1, d2] }
  | _ => none }
def numberingSpellsRow : OpenClaim := { program := "yteaanngagcflhaa", sum := "08a2cf085c1b060f90f745ecc168df5bc1208087fba947122eee3b417d84d78e", func := "billing/billinglaw18.NumberingSpells", spec := "numberingSpells", unfollowed := true, recurses := true, apart := false }
def NumberingSpellsSaid : Prop := numberingSpellsRow.holds Try.pinned (OpenSpec.ofChange numberingSpellsSpec)

/-- ITS FALSE NEIGHBOUR: 'it returns false'. Refute it at one input. -/
def numberingSpellsWrong : ChangeSpec := { name := "numberingSpells", fn := fun _ => fun
  | [d1, d2] => { results := [.lit (.bool false)], args := [d1, d2] }
  | _ => none }
def NumberingSpellsWrongFalsely : Prop := numberingSpellsRow.holds Try.pinned (OpenSpec.ofChange numberingSpellsWrong)

/-- 'billinglaw18.NumberingFree': WHATEVER THE INPUT: true; the input reads as it did. -/
def numberingFreeSpec : ChangeSpec := { name := "numberingFree", fn := fun _ => fun
  | [d1, d2, d3] => { results := [.lit (.bool true)], args := [d1, d2, d3] }
  | _ => none }
def numberingFreeRow : OpenClaim := { program := "yteaanngagcflhaa", sum := "08a2cf085c1b060f90f745ecc168df5bc1208087fba947122eee3b417d84d78e", func := "billing/billinglaw18.NumberingFree", spec := "numberingFree", unfollowed := true, recurses := true, apart := false }
def NumberingFreeSaid : Prop := numberingFreeRow.holds Try.pinned (OpenSpec.ofChange numberingFreeSpec)

/-- ITS FALSE NEIGHBOUR: 'it returns false'. Refute it at one input. -/
def numberingFreeWrong : ChangeSpec := { name := "numberingFree", fn := fun _ => fun
  | [d1, d2, d3] => { results := [.lit (.bool false)], args := [d1, d2, d3] }
  | _ => none }
def NumberingFreeWrongFalsely : Prop := numberingFreeRow.holds Try.pinned (OpenSpec.ofChange numberingFreeWrong)

/-- 'billinglaw18.NumberingOne': WHATEVER THE INPUT: true; the input reads as it did. -/
def numberingOneSpec : ChangeSpec := { name := "numberingOne", fn := fun _ => fun
  | [d1, d2, d3] => { results := [.lit (.bool true)], args := [d1, d2, d3] }
  | _ => none }
def numberingOneRow : OpenClaim := { program := "yteaanngagcflhaa", sum := "08a2cf085c1b060f90f745ecc168df5bc1208087fba947122eee3b417d84d78e", func := "billing/billinglaw18.NumberingOne", spec := "numberingOne", unfollowed := true, recurses := true, apart := false }
def NumberingOneSaid : Prop := numberingOneRow.holds Try.pinned (OpenSpec.ofChange numberingOneSpec)

/-- ITS FALSE NEIGHBOUR: 'it returns false'. Refute it at one input. -/
def numberingOneWrong : ChangeSpec := { name := "numberingOne", fn := fun _ => fun
  | [d1, d2, d3] => { results := [.lit (.bool false)], args := [d1, d2, d3] }
  | _ => none }
def NumberingOneWrongFalsely : Prop := numberingOneRow.holds Try.pinned (OpenSpec.ofChange numberingOneWrong)

/-- 'billinglaw18.NumberingWhen': WHATEVER THE INPUT: true; the input reads as it did. -/
def numberingWhenSpec : ChangeSpec := { name := "numberingWhen", fn := fun _ => fun
  | [d1, d2, d3] => { results := [.lit (.bool true)], args := [d1, d2, d3] }
  | _ => none }
def numberingWhenRow : OpenClaim := { program := "yteaanngagcflhaa", sum := "08a2cf085c1b060f90f745ecc168df5bc1208087fba947122eee3b417d84d78e", func := "billing/billinglaw18.NumberingWhen", spec := "numberingWhen", unfollowed := true, recurses := true, apart := false }
def NumberingWhenSaid : Prop := numberingWhenRow.holds Try.pinned (OpenSpec.ofChange numberingWhenSpec)

/-- ITS FALSE NEIGHBOUR: 'it returns false'. Refute it at one input. -/
def numberingWhenWrong : ChangeSpec := { name := "numberingWhen", fn := fun _ => fun
  | [d1, d2, d3] => { results := [.lit (.bool false)], args := [d1, d2, d3] }
  | _ => none }
def NumberingWhenWrongFalsely : Prop := numberingWhenRow.holds Try.pinned (OpenSpec.ofChange numberingWhenWrong)

/-- 'billinglaw20.SubscribeHistory': WHATEVER THE INPUT: true; the input reads as it did. -/
def subscribeHistorySpec : ChangeSpec := { name := "subscribeHistory", fn := fun _ => fun
  | [d1, d2, d3] => { results := [.lit (.bool true)], args := [d1, d2, d3] }
  | _ => none }
def subscribeHistoryRow : OpenClaim := { program := "yteaanngagcflhaa", sum := "08a2cf085c1b060f90f745ecc168df5bc1208087fba947122eee3b417d84d78e", func := "billing/billinglaw20.SubscribeHistory", spec := "subscribeHistory", unfollowed := true, recurses := true, apart := false }
def SubscribeHistorySaid : Prop := subscribeHistoryRow.holds Try.pinned (OpenSpec.ofChange subscribeHistorySpec)

/-- ITS FALSE NEIGHBOUR: 'it returns false'. Refute it at one input. -/
def subscribeHistoryWrong : ChangeSpec := { name := "subscribeHistory", fn := fun _ => fun
  | [d1, d2, d3] => { results := [.lit (.bool false)], args := [d1, d2, d3] }
  | _ => none }
def SubscribeHistoryWrongFalsely : Prop := subscribeHistoryRow.holds Try.pinned (OpenSpec.ofChange subscribeHistoryWrong)

/-- 'billinglaw20.SubscribeActive': WHATEVER THE INPUT: true; the input reads as it did. -/
def subscribeActiveSpec : ChangeSpec := { name := "subscribeActive", fn := fun _ => fun
  | [d1, d2, d3] => { results := [.lit (.bool true)], args := [d1, d2, d3] }
  | _ => none }
def subscribeActiveRow : OpenClaim := { program := "yteaanngagcflhaa", sum := "08a2cf085c1b060f90f745ecc168df5bc1208087fba947122eee3b417d84d78e", func := "billing/billinglaw20.SubscribeActive", spec := "subscribeActive", unfollowed := true, recurses := true, apart := false }
def SubscribeActiveSaid : Prop := subscribeActiveRow.holds Try.pinned (OpenSpec.ofChange subscribeActiveSpec)

/-- ITS FALSE NEIGHBOUR: 'it returns false'. Refute it at one input. -/
def subscribeActiveWrong : ChangeSpec := { name := "subscribeActive", fn := fun _ => fun
  | [d1, d2, d3] => { results := [.lit (.bool false)], args := [d1, d2, d3] }
  | _ => none }
def SubscribeActiveWrongFalsely : Prop := subscribeActiveRow.holds Try.pinned (OpenSpec.ofChange subscribeActiveWrong)

/-- 'billinglaw20.SubscribeFamily': WHATEVER THE INPUT: true; the input reads as it did. -/
def subscribeFamilySpec : ChangeSpec := { name := "subscribeFamily", fn := fun _ => fun
  | [d1, d2, d3] => { results := [.lit (.bool true)], args := [d1, d2, d3] }
  | _ => none }
def subscribeFamilyRow : OpenClaim := { program := "yteaanngagcflhaa", sum := "08a2cf085c1b060f90f745ecc168df5bc1208087fba947122eee3b417d84d78e", func := "billing/billinglaw20.SubscribeFamily", spec := "subscribeFamily", unfollowed := true, recurses := true, apart := false }
def SubscribeFamilySaid : Prop := subscribeFamilyRow.holds Try.pinned (OpenSpec.ofChange subscribeFamilySpec)

/-- ITS FALSE NEIGHBOUR: 'it returns false'. Refute it at one input. -/
def subscribeFamilyWrong : ChangeSpec := { name := "subscribeFamily", fn := fun _ => fun
  | [d1, d2, d3] => { results := [.lit (.bool false)], args := [d1, d2, d3] }
  | _ => none }
def SubscribeFamilyWrongFalsely : Prop := subscribeFamilyRow.holds Try.pinned (OpenSpec.ofChange subscribeFamilyWrong)

/-- 'billinglaw20.SubscribeSpells': WHATEVER THE INPUT: true; the input reads as it did. -/
def subscribeSpellsSpec : ChangeSpec := { name := "subscribeSpells", fn := fun _ => fun
  | [d1, d2, d3] => { results := [.lit (.bool true)], args := [d1, d2, d3] }
  | _ => none }
def subscribeSpellsRow : OpenClaim := { program := "yteaanngagcflhaa", sum := "08a2cf085c1b060f90f745ecc168df5bc1208087fba947122eee3b417d84d78e", func := "billing/billinglaw20.SubscribeSpells", spec := "subscribeSpells", unfollowed := true, recurses := true, apart := false }
def SubscribeSpellsSaid : Prop := subscribeSpellsRow.holds Try.pinned (OpenSpec.ofChange subscribeSpellsSpec)

/-- ITS FALSE NEIGHBOUR: 'it returns false'. Refute it at one input. -/
def subscribeSpellsWrong : ChangeSpec := { name := "subscribeSpells", fn := fun _ => fun
  | [d1, d2, d3] => { results := [.lit (.bool false)], args := [d1, d2, d3] }
  | _ => none }
def SubscribeSpellsWrongFalsely : Prop := subscribeSpellsRow.holds Try.pinned (OpenSpec.ofChange subscribeSpellsWrong)

/-- 'billinglaw20.SubscribeParts': WHATEVER THE INPUT: true; the input reads as it did. -/
def subscribePartsSpec : ChangeSpec := { name := "subscribeParts", fn := fun _ => fun
  | [d1, d2] => { results := [.lit (.bool true)], args := [d1, d2] }
  | _ => none }
def subscribePartsRow : OpenClaim := { program := "yteaanngagcflhaa", sum := "08a2cf085c1b060f90f745ecc168df5bc1208087fba947122eee3b417d84d78e", func := "billing/billinglaw20.SubscribeParts", spec := "subscribeParts", unfollowed := true, recurses := true, apart := false }
def SubscribePartsSaid : Prop := subscribePartsRow.holds Try.pinned (OpenSpec.ofChange subscribePartsSpec)

/-- ITS FALSE NEIGHBOUR: 'it returns false'. Refute it at one input. -/
def subscribePartsWrong : ChangeSpec := { name := "subscribeParts", fn := fun _ => fun
  | [d1, d2] => { results := [.lit (.bool false)], args := [d1, d2] }
  | _ => none }
def SubscribePartsWrongFalsely : Prop := subscribePartsRow.holds Try.pinned (OpenSpec.ofChange subscribePartsWrong)

/-- 'billinglaw20.SubscribeShares': WHATEVER THE INPUT: true; the input reads as it did. -/
def subscribeSharesSpec : ChangeSpec := { name := "subscribeShares", fn := fun _ => fun
  | [d1, d2, d3] => { results := [.lit (.bool true)], args := [d1, d2, d3] }
  | _ => none }
def subscribeSharesRow : OpenClaim := { program := "yteaanngagcflhaa", sum := "08a2cf085c1b060f90f745ecc168df5bc1208087fba947122eee3b417d84d78e", func := "billing/billinglaw20.SubscribeShares", spec := "subscribeShares", unfollowed := true, recurses := true, apart := false }
def SubscribeSharesSaid : Prop := subscribeSharesRow.holds Try.pinned (OpenSpec.ofChange subscribeSharesSpec)

/-- ITS FALSE NEIGHBOUR: 'it returns false'. Refute it at one input. -/
def subscribeSharesWrong : ChangeSpec := { name := "subscribeShares", fn := fun _ => fun
  | [d1, d2, d3] => { results := [.lit (.bool false)], args := [d1, d2, d3] }
  | _ => none }
def SubscribeSharesWrongFalsely : Prop := subscribeSharesRow.holds Try.pinned (OpenSpec.ofChange subscribeSharesWrong)

/- THE SECOND FORM. 'bulk': how many values and letters a reading holds, each counted each time it is reached (what is shared counts as often as it is met; a slice's spare places count too). A statement '..UptoSaid' is the law's where the arguments, and the package variables that the reading takes, are together of bulk at most 1048576: NARROWER than '..Said'. Prove '..Said' where nothing that the law and all that it calls make is longer than what came in: it says more and counts as full. Else prove '..UptoSaid'. A law counts once. -/
mutual
def uptoBulk {H : Type} : DataW H → Nat
  | .lit (.string bytes) => bytes.length + 1
  | .lit _ => 1
  | .nil => 1
  | .ptr d => uptoBulk d + 1
  | .slice elems spare => uptoBulkAll elems + uptoBulkAll spare + 1
  | .agg parts => uptoBulkAll parts + 1
  | .iface _ d => uptoBulk d + 1
  | .map entries => uptoBulkEntries entries + 1
  | .held _ => 1
def uptoBulkAll {H : Type} : List (DataW H) → Nat
  | [] => 0
  | d :: r => uptoBulk d + uptoBulkAll r
def uptoBulkEntries {H : Type} : List (Lit × DataW H) → Nat
  | [] => 0
  | x :: r => uptoBulkEntry x + uptoBulkEntries r
def uptoBulkEntry {H : Type} : Lit × DataW H → Nat
  | (.string bytes, d) => bytes.length + uptoBulk d + 1
  | (_, d) => uptoBulk d + 1
 end
def uptoSmall : (H : Type) → List (DataW H) → Bool := fun _ ds => decide (uptoBulkAll ds ≤ 1048576)
def OpenSpec.upto (s : _root_.Go.ChangeSpec) : _root_.Go.OpenSpec := { _root_.Go.OpenSpec.ofChange s with cond := some uptoSmall }

/-- 'billinglaw17.CustomerChecks', WHERE WHAT IT READS IS OF BULK AT MOST 1048576: true; the input reads as it did. -/
def customerChecksUptoRow : OpenClaim := { program := "yteaanngagcflhaa", sum := "08a2cf085c1b060f90f745ecc168df5bc1208087fba947122eee3b417d84d78e", func := "billing/billinglaw17.CustomerChecks", spec := "customerChecks", unfollowed := true, recurses := true, apart := false, narrowed := true }
def CustomerChecksUptoSaid : Prop := customerChecksUptoRow.holds Try.pinned (OpenSpec.upto customerChecksSpec)

/-- 'billinglaw17.CustomerStates', WHERE WHAT IT READS IS OF BULK AT MOST 1048576: true; the input reads as it did. -/
def customerStatesUptoRow : OpenClaim := { program := "yteaanngagcflhaa", sum := "08a2cf085c1b060f90f745ecc168df5bc1208087fba947122eee3b417d84d78e", func := "billing/billinglaw17.CustomerStates", spec := "customerStates", unfollowed := true, recurses := true, apart := false, narrowed := true }
def CustomerStatesUptoSaid : Prop := customerStatesUptoRow.holds Try.pinned (OpenSpec.upto customerStatesSpec)

/-- 'billinglaw17.CustomerInserts', WHERE WHAT IT READS IS OF BULK AT MOST 1048576: true; the input reads as it did. -/
def customerInsertsUptoRow : OpenClaim := { program := "yteaanngagcflhaa", sum := "08a2cf085c1b060f90f745ecc168df5bc1208087fba947122eee3b417d84d78e", func := "billing/billinglaw17.CustomerInserts", spec := "customerInserts", unfollowed := true, recurses := true, apart := false, narrowed := true }
def CustomerInsertsUptoSaid : Prop := customerInsertsUptoRow.holds Try.pinned (OpenSpec.upto customerInsertsSpec)

/-- 'billinglaw17.CustomerPast', WHERE WHAT IT READS IS OF BULK AT MOST 1048576: true; the input reads as it did. -/
def customerPastUptoRow : OpenClaim := { program := "yteaanngagcflhaa", sum := "08a2cf085c1b060f90f745ecc168df5bc1208087fba947122eee3b417d84d78e", func := "billing/billinglaw17.CustomerPast", spec := "customerPast", unfollowed := true, recurses := true, apart := false, narrowed := true }
def CustomerPastUptoSaid : Prop := customerPastUptoRow.holds Try.pinned (OpenSpec.upto customerPastSpec)

/-- 'billinglaw17.CustomerUndoes', WHERE WHAT IT READS IS OF BULK AT MOST 1048576: true; the input reads as it did. -/
def customerUndoesUptoRow : OpenClaim := { program := "yteaanngagcflhaa", sum := "08a2cf085c1b060f90f745ecc168df5bc1208087fba947122eee3b417d84d78e", func := "billing/billinglaw17.CustomerUndoes", spec := "customerUndoes", unfollowed := true, recurses := true, apart := false, narrowed := true }
def CustomerUndoesUptoSaid : Prop := customerUndoesUptoRow.holds Try.pinned (OpenSpec.upto customerUndoesSpec)

/-- 'billinglaw17.CustomerFinds', WHERE WHAT IT READS IS OF BULK AT MOST 1048576: true; the input reads as it did. -/
def customerFindsUptoRow : OpenClaim := { program := "yteaanngagcflhaa", sum := "08a2cf085c1b060f90f745ecc168df5bc1208087fba947122eee3b417d84d78e", func := "billing/billinglaw17.CustomerFinds", spec := "customerFinds", unfollowed := true, recurses := true, apart := false, narrowed := true }
def CustomerFindsUptoSaid : Prop := customerFindsUptoRow.holds Try.pinned (OpenSpec.upto customerFindsSpec)

/-- 'billinglaw17.CustomerLinks', WHERE WHAT IT READS IS OF BULK AT MOST 1048576: true; the input reads as it did. -/
def customerLinksUptoRow : OpenClaim := { program := "yteaanngagcflhaa", sum := "08a2cf085c1b060f90f745ecc168df5bc1208087fba947122eee3b417d84d78e", func := "billing/billinglaw17.CustomerLinks", spec := "customerLinks", unfollowed := true, recurses := true, apart := false, narrowed := true }
def CustomerLinksUptoSaid : Prop := customerLinksUptoRow.holds Try.pinned (OpenSpec.upto customerLinksSpec)

/-- 'billinglaw18.NumberingOwners', WHERE WHAT IT READS IS OF BULK AT MOST 1048576: true; the input reads as it did. -/
def numberingOwnersUptoRow : OpenClaim := { program := "yteaanngagcflhaa", sum := "08a2cf085c1b060f90f745ecc168df5bc1208087fba947122eee3b417d84d78e", func := "billing/billinglaw18.NumberingOwners", spec := "numberingOwners", unfollowed := true, recurses := true, apart := false, narrowed := true }
def NumberingOwnersUptoSaid : Prop := numberingOwnersUptoRow.holds Try.pinned (OpenSpec.upto numberingOwnersSpec)

/-- 'billinglaw18.NumberingSpells', WHERE WHAT IT READS IS OF BULK AT MOST 1048576: true; the input reads as it did. -/
def numberingSpellsUptoRow : OpenClaim := { program := "yteaanngagcflhaa", sum := "08a2cf085c1b060f90f745ecc168df5bc1208087fba947122eee3b417d84d78e", func := "billing/billinglaw18.NumberingSpells", spec := "numberingSpells", unfollowed := true, recurses := true, apart := false, narrowed := true }
def NumberingSpellsUptoSaid : Prop := numberingSpellsUptoRow.holds Try.pinned (OpenSpec.upto numberingSpellsSpec)

/-- 'billinglaw18.NumberingFree', WHERE WHAT IT READS IS OF BULK AT MOST 1048576: true; the input reads as it did. -/
def numberingFreeUptoRow : OpenClaim := { program := "yteaanngagcflhaa", sum := "08a2cf085c1b060f90f745ecc168df5bc1208087fba947122eee3b417d84d78e", func := "billing/billinglaw18.NumberingFree", spec := "numberingFree", unfollowed := true, recurses := true, apart := false, narrowed := true }
def NumberingFreeUptoSaid : Prop := numberingFreeUptoRow.holds Try.pinned (OpenSpec.upto numberingFreeSpec)

/-- 'billinglaw18.NumberingOne', WHERE WHAT IT READS IS OF BULK AT MOST 1048576: true; the input reads as it did. -/
def numberingOneUptoRow : OpenClaim := { program := "yteaanngagcflhaa", sum := "08a2cf085c1b060f90f745ecc168df5bc1208087fba947122eee3b417d84d78e", func := "billing/billinglaw18.NumberingOne", spec := "numberingOne", unfollowed := true, recurses := true, apart := false, narrowed := true }
def NumberingOneUptoSaid : Prop := numberingOneUptoRow.holds Try.pinned (OpenSpec.upto numberingOneSpec)

/-- 'billinglaw18.NumberingWhen', WHERE WHAT IT READS IS OF BULK AT MOST 1048576: true; the input reads as it did. -/
def numberingWhenUptoRow : OpenClaim := { program := "yteaanngagcflhaa", sum := "08a2cf085c1b060f90f745ecc168df5bc1208087fba947122eee3b417d84d78e", func := "billing/billinglaw18.NumberingWhen", spec := "numberingWhen", unfollowed := true, recurses := true, apart := false, narrowed := true }
def NumberingWhenUptoSaid : Prop := numberingWhenUptoRow.holds Try.pinned (OpenSpec.upto numberingWhenSpec)

/-- 'billinglaw20.SubscribeHistory', WHERE WHAT IT READS IS OF BULK AT MOST 1048576: true; the input reads as it did. -/
def subscribeHistoryUptoRow : OpenClaim := { program := "yteaanngagcflhaa", sum := "08a2cf085c1b060f90f745ecc168df5bc1208087fba947122eee3b417d84d78e", func := "billing/billinglaw20.SubscribeHistory", spec := "subscribeHistory", unfollowed := true, recurses := true, apart := false, narrowed := true }
def SubscribeHistoryUptoSaid : Prop := subscribeHistoryUptoRow.holds Try.pinned (OpenSpec.upto subscribeHistorySpec)

/-- 'billinglaw20.SubscribeActive', WHERE WHAT IT READS IS OF BULK AT MOST 1048576: true; the input reads as it did. -/
def subscribeActiveUptoRow : OpenClaim := { program := "yteaanngagcflhaa", sum := "08a2cf085c1b060f90f745ecc168df5bc1208087fba947122eee3b417d84d78e", func := "billing/billinglaw20.SubscribeActive", spec := "subscribeActive", unfollowed := true, recurses := true, apart := false, narrowed := true }
def SubscribeActiveUptoSaid : Prop := subscribeActiveUptoRow.holds Try.pinned (OpenSpec.upto subscribeActiveSpec)

/-- 'billinglaw20.SubscribeFamily', WHERE WHAT IT READS IS OF BULK AT MOST 1048576: true; the input reads as it did. -/
def subscribeFamilyUptoRow : OpenClaim := { program := "yteaanngagcflhaa", sum := "08a2cf085c1b060f90f745ecc168df5bc1208087fba947122eee3b417d84d78e", func := "billing/billinglaw20.SubscribeFamily", spec := "subscribeFamily", unfollowed := true, recurses := true, apart := false, narrowed := true }
def SubscribeFamilyUptoSaid : Prop := subscribeFamilyUptoRow.holds Try.pinned (OpenSpec.upto subscribeFamilySpec)

/-- 'billinglaw20.SubscribeSpells', WHERE WHAT IT READS IS OF BULK AT MOST 1048576: true; the input reads as it did. -/
def subscribeSpellsUptoRow : OpenClaim := { program := "yteaanngagcflhaa", sum := "08a2cf085c1b060f90f745ecc168df5bc1208087fba947122eee3b417d84d78e", func := "billing/billinglaw20.SubscribeSpells", spec := "subscribeSpells", unfollowed := true, recurses := true, apart := false, narrowed := true }
def SubscribeSpellsUptoSaid : Prop := subscribeSpellsUptoRow.holds Try.pinned (OpenSpec.upto subscribeSpellsSpec)

/-- 'billinglaw20.SubscribeParts', WHERE WHAT IT READS IS OF BULK AT MOST 1048576: true; the input reads as it did. -/
def subscribePartsUptoRow : OpenClaim := { program := "yteaanngagcflhaa", sum := "08a2cf085c1b060f90f745ecc168df5bc1208087fba947122eee3b417d84d78e", func := "billing/billinglaw20.SubscribeParts", spec := "subscribeParts", unfollowed := true, recurses := true, apart := false, narrowed := true }
def SubscribePartsUptoSaid : Prop := subscribePartsUptoRow.holds Try.pinned (OpenSpec.upto subscribePartsSpec)

/-- 'billinglaw20.SubscribeShares', WHERE WHAT IT READS IS OF BULK AT MOST 1048576: true; the input reads as it did. -/
def subscribeSharesUptoRow : OpenClaim := { program := "yteaanngagcflhaa", sum := "08a2cf085c1b060f90f745ecc168df5bc1208087fba947122eee3b417d84d78e", func := "billing/billinglaw20.SubscribeShares", spec := "subscribeShares", unfollowed := true, recurses := true, apart := false, narrowed := true }
def SubscribeSharesUptoSaid : Prop := subscribeSharesUptoRow.holds Try.pinned (OpenSpec.upto subscribeSharesSpec)

end Rows
end Go.Proofs.Yteaanngagcflhaa
