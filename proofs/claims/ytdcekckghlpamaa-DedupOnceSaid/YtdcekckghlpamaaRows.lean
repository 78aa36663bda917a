/-
  No cell of these rows narrows 'for every input' (looked for: loops, veiled, ifaces, maps, wideKeys, modest, calm, conditions, laid).
  DERIVED. THE GIVEN ROWS OF THIS SEAT. 7 by the template 'for every input the law returns true; each argument reads behind the call as it read before'; 0 by the template 'total and deterministic' (their statements: YtdcekckghlpamaaTotals.lean).
  GIVEN WITH THE SEED: the statements are not yours to turn. If you find one false, say at which input.
  Laid BY PROGRAM, IN A SANDBOX (cutbox-rows.mjs): the forced cells as the released guide's own fill.sh prints them over the translation 659a67073678190b… (all of the seat's roots in one cut). By AI agents, Wed Nov 11 2026. No macro, syntax, notation, axiom, sorry.
-/
import Derived.Test.YtdcekckghlpamaaChecked
import GoSem.Claim
import GoSem.ClaimJoined
import GoSem.ClaimMapViews
import Derived.JoinedTies
import Derived.KernelRfl
namespace Go.Proofs.Ytdcekckghlpamaa
/- THE CELL 'sum', in the pinned program and in every row, IS THE sha256 OF THE DUMP (.gsa) THAT YtdcekckghlpamaaProg.lean LOADS. Nothing in Lean hashes anything: it is a label: what it is worth is what the hold of that sum in a sandbox is worth. -/
noncomputable def Try.pinned : Pinned := { name := "ytdcekckghlpamaa", sum := "659a67073678190bcb43f763b8ac8763b63726e61a094e6b28d4d626048cc886", checked := Try.checked }
namespace Rows
def none {H : Type} : Left H := { results := [], args := [] }

/-- 'billinglaw14.DedupHas': WHATEVER THE INPUT: true; the input reads as it did. -/
def dedupHasSpec : ChangeSpec := { name := "dedupHas", fn := fun _ => fun
  | [d1, d2, d3] => { results := [.lit (.bool true)], args := [d1, d2, d3] }
  | _ => none }
def dedupHasRow : OpenClaim := { program := "ytdcekckghlpamaa", sum := "659a67073678190bcb43f763b8ac8763b63726e61a094e6b28d4d626048cc886", func := "billing/billinglaw14.DedupHas", spec := "dedupHas", inPlace := ["slices.overlaps[billing/api.Range]"], unfollowed := true, recurses := true, apart := false }
def DedupHasSaid : Prop := dedupHasRow.holds Try.pinned (OpenSpec.ofChange dedupHasSpec)

/-- ITS FALSE NEIGHBOUR: 'it returns false'. Refute it at one input. -/
def dedupHasWrong : ChangeSpec := { name := "dedupHas", fn := fun _ => fun
  | [d1, d2, d3] => { results := [.lit (.bool false)], args := [d1, d2, d3] }
  | _ => none }
def DedupHasWrongFalsely : Prop := dedupHasRow.holds Try.pinned (OpenSpec.ofChange dedupHasWrong)

/-- 'billinglaw14.DedupMissing': WHATEVER THE INPUT: true; the input reads as it did. -/
def dedupMissingSpec : ChangeSpec := { name := "dedupMissing", fn := fun _ => fun
  | [d1, d2] => { results := [.lit (.bool true)], args := [d1, d2] }
  | _ => none }
def dedupMissingRow : OpenClaim := { program := "ytdcekckghlpamaa", sum := "659a67073678190bcb43f763b8ac8763b63726e61a094e6b28d4d626048cc886", func := "billing/billinglaw14.DedupMissing", spec := "dedupMissing", inPlace := ["slices.overlaps[billing/api.Range]"], unfollowed := true, recurses := true, apart := false }
def DedupMissingSaid : Prop := dedupMissingRow.holds Try.pinned (OpenSpec.ofChange dedupMissingSpec)

/-- ITS FALSE NEIGHBOUR: 'it returns false'. Refute it at one input. -/
def dedupMissingWrong : ChangeSpec := { name := "dedupMissing", fn := fun _ => fun
  | [d1, d2] => { results := [.lit (.bool false)], args := [d1, d2] }
  | _ => none }
def DedupMissingWrongFalsely : Prop := dedupMissingRow.holds Try.pinned (OpenSpec.ofChange dedupMissingWrong)

/-- 'billinglaw14.DedupChecks': WHATEVER THE INPUT: true; the input reads as it did. -/
def dedupChecksSpec : ChangeSpec := { name := "dedupChecks", fn := fun _ => fun
  | [d] => { results := [.lit (.bool true)], args := [d] }
  | _ => none }
def dedupChecksRow : OpenClaim := { program := "ytdcekckghlpamaa", sum := "659a67073678190bcb43f763b8ac8763b63726e61a094e6b28d4d626048cc886", func := "billing/billinglaw14.DedupChecks", spec := "dedupChecks", inPlace := ["slices.overlaps[billing/api.Range]"], unfollowed := true, recurses := true, apart := false }
def DedupChecksSaid : Prop := dedupChecksRow.holds Try.pinned (OpenSpec.ofChange dedupChecksSpec)

/-- ITS FALSE NEIGHBOUR: 'it returns false'. Refute it at one input. -/
def dedupChecksWrong : ChangeSpec := { name := "dedupChecks", fn := fun _ => fun
  | [d] => { results := [.lit (.bool false)], args := [d] }
  | _ => none }
def DedupChecksWrongFalsely : Prop := dedupChecksRow.holds Try.pinned (OpenSpec.ofChange dedupChecksWrong)

/-- 'billinglaw14.DedupAdds': WHATEVER THE INPUT: true; the input reads as it did. -/
def dedupAddsSpec : ChangeSpec := { name := "dedupAdds", fn := fun _ => fun
  | [d1, d2, d3] => { results := [.lit (.bool true)], args := [d1, d2, d3] }
  | _ => none }
def dedupAddsRow : OpenClaim := { program := "ytdcekckghlpamaa", sum := "659a67073678190bcb43f763b8ac8763b63726e61a094e6b28d4d626048cc886", func := "billing/billinglaw14.DedupAdds", spec := "dedupAdds", inPlace := ["slices.overlaps[billing/api.Range]"], unfollowed := true, recurses := true, apart := false }
def DedupAddsSaid : Prop := dedupAddsRow.holds Try.pinned (OpenSpec.ofChange dedupAddsSpec)

/-- ITS FALSE NEIGHBOUR: 'it returns false'. Refute it at one input. -/
def dedupAddsWrong : ChangeSpec := { name := "dedupAdds", fn := fun _ => fun
  | [d1, d2, d3] => { results := [.lit (.bool false)], args := [d1, d2, d3] }
  | _ => none }
def DedupAddsWrongFalsely : Prop := dedupAddsRow.holds Try.pinned (OpenSpec.ofChange dedupAddsWrong)

/-- 'billinglaw14.DedupFilters': WHATEVER THE INPUT: true; the input reads as it did. -/
def dedupFiltersSpec : ChangeSpec := { name := "dedupFilters", fn := fun _ => fun
  | [d1, d2] => { results := [.lit (.bool true)], args := [d1, d2] }
  | _ => none }
def dedupFiltersRow : OpenClaim := { program := "ytdcekckghlpamaa", sum := "659a67073678190bcb43f763b8ac8763b63726e61a094e6b28d4d626048cc886", func := "billing/billinglaw14.DedupFilters", spec := "dedupFilters", inPlace := ["slices.overlaps[billing/api.Range]"], unfollowed := true, recurses := true, apart := false }
def DedupFiltersSaid : Prop := dedupFiltersRow.holds Try.pinned (OpenSpec.ofChange dedupFiltersSpec)

/-- ITS FALSE NEIGHBOUR: 'it returns false'. Refute it at one input. -/
def dedupFiltersWrong : ChangeSpec := { name := "dedupFilters", fn := fun _ => fun
  | [d1, d2] => { results := [.lit (.bool false)], args := [d1, d2] }
  | _ => none }
def DedupFiltersWrongFalsely : Prop := dedupFiltersRow.holds Try.pinned (OpenSpec.ofChange dedupFiltersWrong)

/-- 'billinglaw14.DedupOnce': WHATEVER THE INPUT: true; the input reads as it did. -/
def dedupOnceSpec : ChangeSpec := { name := "dedupOnce", fn := fun _ => fun
  | [d1, d2, d3] => { results := [.lit (.bool true)], args := [d1, d2, d3] }
  | _ => none }
def dedupOnceRow : OpenClaim := { program := "ytdcekckghlpamaa", sum := "659a67073678190bcb43f763b8ac8763b63726e61a094e6b28d4d626048cc886", func := "billing/billinglaw14.DedupOnce", spec := "dedupOnce", inPlace := ["slices.overlaps[billing/api.Range]"], unfollowed := true, recurses := true, apart := false }
def DedupOnceSaid : Prop := dedupOnceRow.holds Try.pinned (OpenSpec.ofChange dedupOnceSpec)

/-- ITS FALSE NEIGHBOUR: 'it returns false'. Refute it at one input. -/
def dedupOnceWrong : ChangeSpec := { name := "dedupOnce", fn := fun _ => fun
  | [d1, d2, d3] => { results := [.lit (.bool false)], args := [d1, d2, d3] }
  | _ => none }
def DedupOnceWrongFalsely : Prop := dedupOnceRow.holds Try.pinned (OpenSpec.ofChange dedupOnceWrong)

/-- 'billinglaw14.DedupCounts': WHATEVER THE INPUT: true; the input reads as it did. -/
def dedupCountsSpec : ChangeSpec := { name := "dedupCounts", fn := fun _ => fun
  | [d1, d2] => { results := [.lit (.bool true)], args := [d1, d2] }
  | _ => none }
def dedupCountsRow : OpenClaim := { program := "ytdcekckghlpamaa", sum := "659a67073678190bcb43f763b8ac8763b63726e61a094e6b28d4d626048cc886", func := "billing/billinglaw14.DedupCounts", spec := "dedupCounts", inPlace := ["slices.overlaps[billing/api.Range]"], unfollowed := true, recurses := true, apart := false }
def DedupCountsSaid : Prop := dedupCountsRow.holds Try.pinned (OpenSpec.ofChange dedupCountsSpec)

/-- ITS FALSE NEIGHBOUR: 'it returns false'. Refute it at one input. -/
def dedupCountsWrong : ChangeSpec := { name := "dedupCounts", fn := fun _ => fun
  | [d1, d2] => { results := [.lit (.bool false)], args := [d1, d2] }
  | _ => none }
def DedupCountsWrongFalsely : Prop := dedupCountsRow.holds Try.pinned (OpenSpec.ofChange dedupCountsWrong)

/- THE SECOND FORM. 'bulk': how many values and letters a reading holds, each counted each time it is reached (what is shared counts as often as it is met; a slice's spare places count too). A statement '..UptoSaid' is the law's where the arguments, and the package variables that the reading takes, are together of bulk at most 1048576: NARROWER than '..Said'. Prove '..Said' where nothing that the law and all that it calls make is longer than what came in: it says more and counts as full. Else prove '..UptoSaid'. A law counts once. -/
mutual
def uptoBulk {H : Type} : DataW H → Nat
  | .lit (.string bytes) => bytes.length + 1
  | .lit _ => 1
  | .nil => 1
  | .ptr d => uptoBulk d + 1
  | .slice elems spare => uptoBulkAll elems + uptoBulkAll spare + 1
  | .agg parts => uptoBulkAll parts + 1
  | .iface _ d => uptoBulk d + 1
  | .map entries => uptoBulkEntries entries + 1
  | .held _ => 1
def uptoBulkAll {H : Type} : List (DataW H) → Nat
  | [] => 0
  | d :: r => uptoBulk d + uptoBulkAll r
def uptoBulkEntries {H : Type} : List (Lit × DataW H) → Nat
  | [] => 0
  | x :: r => uptoBulkEntry x + uptoBulkEntries r
def uptoBulkEntry {H : Type} : Lit × DataW H → Nat
  | (.string bytes, d) => bytes.length + uptoBulk d + 1
  | (_, d) => uptoBulk d + 1
 end
def uptoSmall : (H : Type) → List (DataW H) → Bool := fun _ ds => decide (uptoBulkAll ds ≤ 1048576)
def OpenSpec.upto (s : _root_.Go.ChangeSpec) : _root_.Go.OpenSpec := { _root_.Go.OpenSpec.ofChange s with cond := some uptoSmall }

/-- 'billinglaw14.DedupHas', WHERE WHAT IT READS IS OF BULK AT MOST 1048576: true; the input reads as it did. -/
def dedupHasUptoRow : OpenClaim := { program := "ytdcekckghlpamaa", sum := "659a67073678190bcb43f763b8ac8763b63726e61a094e6b28d4d626048cc886", func := "billing/billinglaw14.DedupHas", spec := "dedupHas", inPlace := ["slices.overlaps[billing/api.Range]"], unfollowed := true, recurses := true, apart := false, narrowed := true }
def DedupHasUptoSaid : Prop := dedupHasUptoRow.holds Try.pinned (OpenSpec.upto dedupHasSpec)

/-- 'billinglaw14.DedupMissing', WHERE WHAT IT READS IS OF BULK AT MOST 1048576: true; the input reads as it did. -/
def dedupMissingUptoRow : OpenClaim := { program := "ytdcekckghlpamaa", sum := "659a67073678190bcb43f763b8ac8763b63726e61a094e6b28d4d626048cc886", func := "billing/billinglaw14.DedupMissing", spec := "dedupMissing", inPlace := ["slices.overlaps[billing/api.Range]"], unfollowed := true, recurses := true, apart := false, narrowed := true }
def DedupMissingUptoSaid : Prop := dedupMissingUptoRow.holds Try.pinned (OpenSpec.upto dedupMissingSpec)

/-- 'billinglaw14.DedupChecks', WHERE WHAT IT READS IS OF BULK AT MOST 1048576: true; the input reads as it did. -/
def dedupChecksUptoRow : OpenClaim := { program := "ytdcekckghlpamaa", sum := "659a67073678190bcb43f763b8ac8763b63726e61a094e6b28d4d626048cc886", func := "billing/billinglaw14.DedupChecks", spec := "dedupChecks", inPlace := ["slices.overlaps[billing/api.Range]"], unfollowed := true, recurses := true, apart := false, narrowed := true }
def DedupChecksUptoSaid : Prop := dedupChecksUptoRow.holds Try.pinned (OpenSpec.upto dedupChecksSpec)

/-- 'billinglaw14.DedupAdds', WHERE WHAT IT READS IS OF BULK AT MOST 1048576: true; the input reads as it did. -/
def dedupAddsUptoRow : OpenClaim := { program := "ytdcekckghlpamaa", sum := "659a67073678190bcb43f763b8ac8763b63726e61a094e6b28d4d626048cc886", func := "billing/billinglaw14.DedupAdds", spec := "dedupAdds", inPlace := ["slices.overlaps[billing/api.Range]"], unfollowed := true, recurses := true, apart := false, narrowed := true }
def DedupAddsUptoSaid : Prop := dedupAddsUptoRow.holds Try.pinned (OpenSpec.upto dedupAddsSpec)

/-- 'billinglaw14.DedupFilters', WHERE WHAT IT READS IS OF BULK AT MOST 1048576: true; the input reads as it did. -/
def dedupFiltersUptoRow : OpenClaim := { program := "ytdcekckghlpamaa", sum := "659a67073678190bcb43f763b8ac8763b63726e61a094e6b28d4d626048cc886", func := "billing/billinglaw14.DedupFilters", spec := "dedupFilters", inPlace := ["slices.overlaps[billing/api.Range]"], unfollowed := true, recurses := true, apart := false, narrowed := true }
def DedupFiltersUptoSaid : Prop := dedupFiltersUptoRow.holds Try.pinned (OpenSpec.upto dedupFiltersSpec)

/-- 'billinglaw14.DedupOnce', WHERE WHAT IT READS IS OF BULK AT MOST 1048576: true; the input reads as it did. -/
def dedupOnceUptoRow : OpenClaim := { program := "ytdcekckghlpamaa", sum := "659a67073678190bcb43f763b8ac8763b63726e61a094e6b28d4d626048cc886", func := "billing/billinglaw14.DedupOnce", spec := "dedupOnce", inPlace := ["slices.overlaps[billing/api.Range]"], unfollowed := true, recurses := true, apart := false, narrowed := true }
def DedupOnceUptoSaid : Prop := dedupOnceUptoRow.holds Try.pinned (OpenSpec.upto dedupOnceSpec)

/-- 'billinglaw14.DedupCounts', WHERE WHAT IT READS IS OF BULK AT MOST 1048576: true; the input reads as it did. -/
def dedupCountsUptoRow : OpenClaim := { program := "ytdcekckghlpamaa", sum := "659a67073678190bcb43f763b8ac8763b63726e61a094e6b28d4d626048cc886", func := "billing/billinglaw14.DedupCounts", spec := "dedupCounts", inPlace := ["slices.overlaps[billing/api.Range]"], unfollowed := true, recurses := true, apart := false, narrowed := true }
def DedupCountsUptoSaid : Prop := dedupCountsUptoRow.holds Try.pinned (OpenSpec.upto dedupCountsSpec)

end Rows
end Go.Proofs.Ytdcekckghlpamaa
