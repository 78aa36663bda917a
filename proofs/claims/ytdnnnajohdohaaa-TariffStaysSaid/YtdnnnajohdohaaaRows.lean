/-
  NARROWER THAN 'FOR EVERY INPUT', by the rows' own cells (each row's printed sentence says how): TariffChecks: loops · TariffAt: loops · TariffChanges: loops · TariffReplaces: loops · TariffVersions: loops · TariffStays: loops.
  DERIVED. THE GIVEN ROWS OF THIS SEAT. 6 by the template 'for every input the law returns true; each argument reads behind the call as it read before'; 0 by the template 'total and deterministic' (their statements: YtdnnnajohdohaaaTotals.lean).
  GIVEN WITH THE SEED: the statements are not yours to turn. If you find one false, say at which input.
  Laid BY PROGRAM, IN A SANDBOX (cutbox-rows.mjs): the forced cells as the released guide's own fill.sh prints them over the translation d75a21a443ff2e24… (all of the seat's roots in one cut). By AI agents, Wed Nov 11 2026. No macro, syntax, notation, axiom, sorry.
-/
import Derived.Test.YtdnnnajohdohaaaChecked
import GoSem.Claim
import GoSem.ClaimJoined
import GoSem.ClaimMapViews
import Derived.JoinedTies
import Derived.KernelRfl
namespace Go.Proofs.Ytdnnnajohdohaaa
/- THE CELL 'sum', in the pinned program and in every row, IS THE sha256 OF THE DUMP (.gsa) THAT YtdnnnajohdohaaaProg.lean LOADS. Nothing in Lean hashes anything: it is a label: what it is worth is what the hold of that sum in a sandbox is worth. -/
noncomputable def Try.pinned : Pinned := { name := "ytdnnnajohdohaaa", sum := "d75a21a443ff2e24094f58ce70a717dc73e9ab23adc333ed97bd4c7438b3238d", checked := Try.checked }
namespace Rows
def none {H : Type} : Left H := { results := [], args := [] }

/-- 'billinglaw28.TariffChecks': WHATEVER THE INPUT: true; the input reads as it did. -/
def tariffChecksSpec : ChangeSpec := { name := "tariffChecks", fn := fun _ => fun
  | [d] => { results := [.lit (.bool true)], args := [d] }
  | _ => none }
def tariffChecksRow : OpenClaim := { program := "ytdnnnajohdohaaa", sum := "d75a21a443ff2e24094f58ce70a717dc73e9ab23adc333ed97bd4c7438b3238d", func := "billing/billinglaw28.TariffChecks", spec := "tariffChecks", unfollowed := true, recurses := true, loops := true, apart := false }
def TariffChecksSaid : Prop := tariffChecksRow.holds Try.pinned (OpenSpec.ofChange tariffChecksSpec)

/-- ITS FALSE NEIGHBOUR: 'it returns false'. Refute it at one input. -/
def tariffChecksWrong : ChangeSpec := { name := "tariffChecks", fn := fun _ => fun
  | [d] => { results := [.lit (.bool false)], args := [d] }
  | _ => none }
def TariffChecksWrongFalsely : Prop := tariffChecksRow.holds Try.pinned (OpenSpec.ofChange tariffChecksWrong)

/-- 'billinglaw28.TariffAt': WHATEVER THE INPUT: true; the input reads as it did. -/
def tariffAtSpec : ChangeSpec := { name := "tariffAt", fn := fun _ => fun
  | [d1, d2, d3] => { results := [.lit (.bool true)], args := [d1, d2, d3] }
  | _ => none }
def tariffAtRow : OpenClaim := { program := "ytdnnnajohdohaaa", sum := "d75a21a443ff2e24094f58ce70a717dc73e9ab23adc333ed97bd4c7438b3238d", func := "billing/billinglaw28.TariffAt", spec := "tariffAt", unfollowed := true, recurses := true, loops := true, apart := false }
def TariffAtSaid : Prop := tariffAtRow.holds Try.pinned (OpenSpec.ofChange tariffAtSpec)

/-- ITS FALSE NEIGHBOUR: 'it returns false'. Refute it at one input. -/
def tariffAtWrong : ChangeSpec := { name := "tariffAt", fn := fun _ => fun
  | [d1, d2, d3] => { results := [.lit (.bool false)], args := [d1, d2, d3] }
  | _ => none }
def TariffAtWrongFalsely : Prop := tariffAtRow.holds Try.pinned (OpenSpec.ofChange tariffAtWrong)

/-- 'billinglaw28.TariffChanges': WHATEVER THE INPUT: true; the input reads as it did. -/
def tariffChangesSpec : ChangeSpec := { name := "tariffChanges", fn := fun _ => fun
  | [d1, d2, d3] => { results := [.lit (.bool true)], args := [d1, d2, d3] }
  | _ => none }
def tariffChangesRow : OpenClaim := { program := "ytdnnnajohdohaaa", sum := "d75a21a443ff2e24094f58ce70a717dc73e9ab23adc333ed97bd4c7438b3238d", func := "billing/billinglaw28.TariffChanges", spec := "tariffChanges", unfollowed := true, recurses := true, loops := true, apart := false }
def TariffChangesSaid : Prop := tariffChangesRow.holds Try.pinned (OpenSpec.ofChange tariffChangesSpec)

/-- ITS FALSE NEIGHBOUR: 'it returns false'. Refute it at one input. -/
def tariffChangesWrong : ChangeSpec := { name := "tariffChanges", fn := fun _ => fun
  | [d1, d2, d3] => { results := [.lit (.bool false)], args := [d1, d2, d3] }
  | _ => none }
def TariffChangesWrongFalsely : Prop := tariffChangesRow.holds Try.pinned (OpenSpec.ofChange tariffChangesWrong)

/-- 'billinglaw28.TariffReplaces': WHATEVER THE INPUT: true; the input reads as it did. -/
def tariffReplacesSpec : ChangeSpec := { name := "tariffReplaces", fn := fun _ => fun
  | [d1, d2] => { results := [.lit (.bool true)], args := [d1, d2] }
  | _ => none }
def tariffReplacesRow : OpenClaim := { program := "ytdnnnajohdohaaa", sum := "d75a21a443ff2e24094f58ce70a717dc73e9ab23adc333ed97bd4c7438b3238d", func := "billing/billinglaw28.TariffReplaces", spec := "tariffReplaces", unfollowed := true, recurses := true, loops := true, apart := false }
def TariffReplacesSaid : Prop := tariffReplacesRow.holds Try.pinned (OpenSpec.ofChange tariffReplacesSpec)

/-- ITS FALSE NEIGHBOUR: 'it returns false'. Refute it at one input. -/
def tariffReplacesWrong : ChangeSpec := { name := "tariffReplaces", fn := fun _ => fun
  | [d1, d2] => { results := [.lit (.bool false)], args := [d1, d2] }
  | _ => none }
def TariffReplacesWrongFalsely : Prop := tariffReplacesRow.holds Try.pinned (OpenSpec.ofChange tariffReplacesWrong)

/-- 'billinglaw28.TariffVersions': WHATEVER THE INPUT: true; the input reads as it did. -/
def tariffVersionsSpec : ChangeSpec := { name := "tariffVersions", fn := fun _ => fun
  | [d1, d2, d3] => { results := [.lit (.bool true)], args := [d1, d2, d3] }
  | _ => none }
def tariffVersionsRow : OpenClaim := { program := "ytdnnnajohdohaaa", sum := "d75a21a443ff2e24094f58ce70a717dc73e9ab23adc333ed97bd4c7438b3238d", func := "billing/billinglaw28.TariffVersions", spec := "tariffVersions", unfollowed := true, recurses := true, loops := true, apart := false }
def TariffVersionsSaid : Prop := tariffVersionsRow.holds Try.pinned (OpenSpec.ofChange tariffVersionsSpec)

/-- ITS FALSE NEIGHBOUR: 'it returns false'. Refute it at one input. -/
def tariffVersionsWrong : ChangeSpec := { name := "tariffVersions", fn := fun _ => fun
  | [d1, d2, d3] => { results := [.lit (.bool false)], args := [d1, d2, d3] }
  | _ => none }
def TariffVersionsWrongFalsely : Prop := tariffVersionsRow.holds Try.pinned (OpenSpec.ofChange tariffVersionsWrong)

/-- 'billinglaw28.TariffStays': WHATEVER THE INPUT: true; the input reads as it did. -/
def tariffStaysSpec : ChangeSpec := { name := "tariffStays", fn := fun _ => fun
  | [d1, d2, d3] => { results := [.lit (.bool true)], args := [d1, d2, d3] }
  | _ => none }
def tariffStaysRow : OpenClaim := { program := "ytdnnnajohdohaaa", sum := "d75a21a443ff2e24094f58ce70a717dc73e9ab23adc333ed97bd4c7438b3238d", func := "billing/billinglaw28.TariffStays", spec := "tariffStays", unfollowed := true, recurses := true, loops := true, apart := false }
def TariffStaysSaid : Prop := tariffStaysRow.holds Try.pinned (OpenSpec.ofChange tariffStaysSpec)

/-- ITS FALSE NEIGHBOUR: 'it returns false'. Refute it at one input. -/
def tariffStaysWrong : ChangeSpec := { name := "tariffStays", fn := fun _ => fun
  | [d1, d2, d3] => { results := [.lit (.bool false)], args := [d1, d2, d3] }
  | _ => none }
def TariffStaysWrongFalsely : Prop := tariffStaysRow.holds Try.pinned (OpenSpec.ofChange tariffStaysWrong)

/- THE SECOND FORM. 'bulk': how many values and letters a reading holds, each counted each time it is reached (what is shared counts as often as it is met; a slice's spare places count too). A statement '..UptoSaid' is the law's where the arguments, and the package variables that the reading takes, are together of bulk at most 1048576: NARROWER than '..Said'. Prove '..Said' where nothing that the law and all that it calls make is longer than what came in: it says more and counts as full. Else prove '..UptoSaid'. A law counts once. -/
mutual
def uptoBulk {H : Type} : DataW H → Nat
  | .lit (.string bytes) => bytes.length + 1
  | .lit _ => 1
  | .nil => 1
  | .ptr d => uptoBulk d + 1
  | .slice elems spare => uptoBulkAll elems + uptoBulkAll spare + 1
  | .agg parts => uptoBulkAll parts + 1
  | .iface _ d => uptoBulk d + 1
  | .map entries => uptoBulkEntries entries + 1
  | .held _ => 1
def uptoBulkAll {H : Type} : List (DataW H) → Nat
  | [] => 0
  | d :: r => uptoBulk d + uptoBulkAll r
def uptoBulkEntries {H : Type} : List (Lit × DataW H) → Nat
  | [] => 0
  | x :: r => uptoBulkEntry x + uptoBulkEntries r
def uptoBulkEntry {H : Type} : Lit × DataW H → Nat
  | (.string bytes, d) => bytes.length + uptoBulk d + 1
  | (_, d) => uptoBulk d + 1
 end
def uptoSmall : (H : Type) → List (DataW H) → Bool := fun _ ds => decide (uptoBulkAll ds ≤ 1048576)
def OpenSpec.upto (s : _root_.Go.ChangeSpec) : _root_.Go.OpenSpec := { _root_.Go.OpenSpec.ofChange s with cond := some uptoSmall }

/-- 'billinglaw28.TariffChecks', WHERE WHAT IT READS IS OF BULK AT MOST 1048576: true; the input reads as it did. -/
def tariffChecksUptoRow : OpenClaim := { program := "ytdnnnajohdohaaa", sum := "d75a21a443ff2e24094f58ce70a717dc73e9ab23adc333ed97bd4c7438b3238d", func := "billing/billinglaw28.TariffChecks", spec := "tariffChecks", unfollowed := true, recurses := true, loops := true, apart := false, narrowed := true }
def TariffChecksUptoSaid : Prop := tariffChecksUptoRow.holds Try.pinned (OpenSpec.upto tariffChecksSpec)

/-- 'billinglaw28.TariffAt', WHERE WHAT IT READS IS OF BULK AT MOST 1048576: true; the input reads as it did. -/
def tariffAtUptoRow : OpenClaim := { program := "ytdnnnajohdohaaa", sum := "d75a21a443ff2e24094f58ce70a717dc73e9ab23adc333ed97bd4c7438b3238d", func := "billing/billinglaw28.TariffAt", spec := "tariffAt", unfollowed := true, recurses := true, loops := true, apart := false, narrowed := true }
def TariffAtUptoSaid : Prop := tariffAtUptoRow.holds Try.pinned (OpenSpec.upto tariffAtSpec)

/-- 'billinglaw28.TariffChanges', WHERE WHAT IT READS IS OF BULK AT MOST 1048576: true; the input reads as it did. -/
def tariffChangesUptoRow : OpenClaim := { program := "ytdnnnajohdohaaa", sum := "d75a21a443ff2e24094f58ce70a717dc73e9ab23adc333ed97bd4c7438b3238d", func := "billing/billinglaw28.TariffChanges", spec := "tariffChanges", unfollowed := true, recurses := true, loops := true, apart := false, narrowed := true }
def TariffChangesUptoSaid : Prop := tariffChangesUptoRow.holds Try.pinned (OpenSpec.upto tariffChangesSpec)

/-- 'billinglaw28.TariffReplaces', WHERE WHAT IT READS IS OF BULK AT MOST 1048576: true; the input reads as it did. -/
def tariffReplacesUptoRow : OpenClaim := { program := "ytdnnnajohdohaaa", sum := "d75a21a443ff2e24094f58ce70a717dc73e9ab23adc333ed97bd4c7438b3238d", func := "billing/billinglaw28.TariffReplaces", spec := "tariffReplaces", unfollowed := true, recurses := true, loops := true, apart := false, narrowed := true }
def TariffReplacesUptoSaid : Prop := tariffReplacesUptoRow.holds Try.pinned (OpenSpec.upto tariffReplacesSpec)

/-- 'billinglaw28.TariffVersions', WHERE WHAT IT READS IS OF BULK AT MOST 1048576: true; the input reads as it did. -/
def tariffVersionsUptoRow : OpenClaim := { program := "ytdnnnajohdohaaa", sum := "d75a21a443ff2e24094f58ce70a717dc73e9ab23adc333ed97bd4c7438b3238d", func := "billing/billinglaw28.TariffVersions", spec := "tariffVersions", unfollowed := true, recurses := true, loops := true, apart := false, narrowed := true }
def TariffVersionsUptoSaid : Prop := tariffVersionsUptoRow.holds Try.pinned (OpenSpec.upto tariffVersionsSpec)

/-- 'billinglaw28.TariffStays', WHERE WHAT IT READS IS OF BULK AT MOST 1048576: true; the input reads as it did. -/
def tariffStaysUptoRow : OpenClaim := { program := "ytdnnnajohdohaaa", sum := "d75a21a443ff2e24094f58ce70a717dc73e9ab23adc333ed97bd4c7438b3238d", func := "billing/billinglaw28.TariffStays", spec := "tariffStays", unfollowed := true, recurses := true, loops := true, apart := false, narrowed := true }
def TariffStaysUptoSaid : Prop := tariffStaysUptoRow.holds Try.pinned (OpenSpec.upto tariffStaysSpec)

end Rows
end Go.Proofs.Ytdnnnajohdohaaa
