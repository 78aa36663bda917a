/-
  No cell of these rows narrows 'for every input' (looked for: loops, veiled, ifaces, maps, wideKeys, modest, calm, conditions, laid).
  DERIVED. THE GIVEN ROWS OF THIS SEAT. 5 by the template 'for every input the law returns true; each argument reads behind the call as it read before'; 0 by the template 'total and deterministic' (their statements: YthidlakkpdbeaaaTotals.lean).
  GIVEN WITH THE SEED: the statements are not yours to turn. If you find one false, say at which input.
  Laid BY PROGRAM, IN A SANDBOX (cutbox-rows.mjs): the forced cells as the released guide's own fill.sh prints them over the translation 68de76a98026797c… (all of the seat's roots in one cut). By AI agents, Wed Nov 11 2026. No macro, syntax, notation, axiom, sorry.
-/
import Derived.Test.YthidlakkpdbeaaaChecked
import GoSem.Claim
import GoSem.ClaimJoined
import GoSem.ClaimMapViews
import Derived.JoinedTies
import Derived.KernelRfl
namespace Go.Proofs.Ythidlakkpdbeaaa
/- THE CELL 'sum', in the pinned program and in every row, IS THE sha256 OF THE DUMP (.gsa) THAT YthidlakkpdbeaaaProg.lean LOADS. Nothing in Lean hashes anything: it is a label: what it is worth is what the hold of that sum in a sandbox is worth. -/
noncomputable def Try.pinned : Pinned := { name := "ythidlakkpdbeaaa", sum := "68de76a98026797c25f9a772a31d1a442f98163752da4b2a1bbeec105557cd99", checked := Try.checked }
namespace Rows
def none {H : Type} : Left H := { results := [], args := [] }

/-- 'billinglaw49.DisputeOpens': WHATEVER THE INPUT: true; the input reads as it did. -/
def disputeOpensSpec : ChangeSpec := { name := "disputeOpens", fn := fun _ => fun
  | [d1, d2] => { results := [.lit (.bool true)], args := [d1, d2] }
  | _ => none }
def disputeOpensRow : OpenClaim := { program := "ythidlakkpdbeaaa", sum := "68de76a98026797c25f9a772a31d1a442f98163752da4b2a1bbeec105557cd99", func := "billing/billinglaw49.DisputeOpens", spec := "disputeOpens", inPlace := ["slices.overlaps[billing/api.Dispute]"], unfollowed := true, recurses := true, apart := false }
def DisputeOpensSaid : Prop := disputeOpensRow.holds Try.pinned (OpenSpec.ofChange disputeOpensSpec)

/-- ITS FALSE NEIGHBOUR: 'it returns false'. Refute it at one input. -/
def disputeOpensWrong : ChangeSpec := { name := "disputeOpens", fn := fun _ => fun
  | [d1, d2] => { results := [.lit (.bool false)], args := [d1, d2] }
  | _ => none }
def DisputeOpensWrongFalsely : Prop := disputeOpensRow.holds Try.pinned (OpenSpec.ofChange disputeOpensWrong)

/-- 'billinglaw49.DisputeSums': WHATEVER THE INPUT: true; the input reads as it did. -/
def disputeSumsSpec : ChangeSpec := { name := "disputeSums", fn := fun _ => fun
  | [d1, d2, d3] => { results := [.lit (.bool true)], args := [d1, d2, d3] }
  | _ => none }
def disputeSumsRow : OpenClaim := { program := "ythidlakkpdbeaaa", sum := "68de76a98026797c25f9a772a31d1a442f98163752da4b2a1bbeec105557cd99", func := "billing/billinglaw49.DisputeSums", spec := "disputeSums", inPlace := ["slices.overlaps[billing/api.Dispute]"], unfollowed := true, recurses := true, apart := false }
def DisputeSumsSaid : Prop := disputeSumsRow.holds Try.pinned (OpenSpec.ofChange disputeSumsSpec)

/-- ITS FALSE NEIGHBOUR: 'it returns false'. Refute it at one input. -/
def disputeSumsWrong : ChangeSpec := { name := "disputeSums", fn := fun _ => fun
  | [d1, d2, d3] => { results := [.lit (.bool false)], args := [d1, d2, d3] }
  | _ => none }
def DisputeSumsWrongFalsely : Prop := disputeSumsRow.holds Try.pinned (OpenSpec.ofChange disputeSumsWrong)

/-- 'billinglaw49.DisputeOnce': WHATEVER THE INPUT: true; the input reads as it did. -/
def disputeOnceSpec : ChangeSpec := { name := "disputeOnce", fn := fun _ => fun
  | [d1, d2, d3] => { results := [.lit (.bool true)], args := [d1, d2, d3] }
  | _ => none }
def disputeOnceRow : OpenClaim := { program := "ythidlakkpdbeaaa", sum := "68de76a98026797c25f9a772a31d1a442f98163752da4b2a1bbeec105557cd99", func := "billing/billinglaw49.DisputeOnce", spec := "disputeOnce", inPlace := ["slices.overlaps[billing/api.Dispute]"], unfollowed := true, recurses := true, apart := false }
def DisputeOnceSaid : Prop := disputeOnceRow.holds Try.pinned (OpenSpec.ofChange disputeOnceSpec)

/-- ITS FALSE NEIGHBOUR: 'it returns false'. Refute it at one input. -/
def disputeOnceWrong : ChangeSpec := { name := "disputeOnce", fn := fun _ => fun
  | [d1, d2, d3] => { results := [.lit (.bool false)], args := [d1, d2, d3] }
  | _ => none }
def DisputeOnceWrongFalsely : Prop := disputeOnceRow.holds Try.pinned (OpenSpec.ofChange disputeOnceWrong)

/-- 'billinglaw49.DisputeDecides': WHATEVER THE INPUT: true; the input reads as it did. -/
def disputeDecidesSpec : ChangeSpec := { name := "disputeDecides", fn := fun _ => fun
  | [d1, d2] => { results := [.lit (.bool true)], args := [d1, d2] }
  | _ => none }
def disputeDecidesRow : OpenClaim := { program := "ythidlakkpdbeaaa", sum := "68de76a98026797c25f9a772a31d1a442f98163752da4b2a1bbeec105557cd99", func := "billing/billinglaw49.DisputeDecides", spec := "disputeDecides", inPlace := ["slices.overlaps[billing/api.Dispute]"], unfollowed := true, recurses := true, apart := false }
def DisputeDecidesSaid : Prop := disputeDecidesRow.holds Try.pinned (OpenSpec.ofChange disputeDecidesSpec)

/-- ITS FALSE NEIGHBOUR: 'it returns false'. Refute it at one input. -/
def disputeDecidesWrong : ChangeSpec := { name := "disputeDecides", fn := fun _ => fun
  | [d1, d2] => { results := [.lit (.bool false)], args := [d1, d2] }
  | _ => none }
def DisputeDecidesWrongFalsely : Prop := disputeDecidesRow.holds Try.pinned (OpenSpec.ofChange disputeDecidesWrong)

/-- 'billinglaw49.DisputeKeeps': WHATEVER THE INPUT: true; the input reads as it did. -/
def disputeKeepsSpec : ChangeSpec := { name := "disputeKeeps", fn := fun _ => fun
  | [d] => { results := [.lit (.bool true)], args := [d] }
  | _ => none }
def disputeKeepsRow : OpenClaim := { program := "ythidlakkpdbeaaa", sum := "68de76a98026797c25f9a772a31d1a442f98163752da4b2a1bbeec105557cd99", func := "billing/billinglaw49.DisputeKeeps", spec := "disputeKeeps", inPlace := ["slices.overlaps[billing/api.Dispute]"], unfollowed := true, recurses := true, apart := false }
def DisputeKeepsSaid : Prop := disputeKeepsRow.holds Try.pinned (OpenSpec.ofChange disputeKeepsSpec)

/-- ITS FALSE NEIGHBOUR: 'it returns false'. Refute it at one input. -/
def disputeKeepsWrong : ChangeSpec := { name := "disputeKeeps", fn := fun _ => fun
  | [d] => { results := [.lit (.bool false)], args := [d] }
  | _ => none }
def DisputeKeepsWrongFalsely : Prop := disputeKeepsRow.holds Try.pinned (OpenSpec.ofChange disputeKeepsWrong)

/- THE SECOND FORM. 'bulk': how many values and letters a reading holds, each counted each time it is reached (what is shared counts as often as it is met; a slice's spare places count too). A statement '..UptoSaid' is the law's where the arguments, and the package variables that the reading takes, are together of bulk at most 1048576: NARROWER than '..Said'. Prove '..Said' where nothing that the law and all that it calls make is longer than what came in: it says more and counts as full. Else prove '..UptoSaid'. A law counts once. -/
mutual
def uptoBulk {H : Type} : DataW H → Nat
  | .lit (.string bytes) => bytes.length + 1
  | .lit _ => 1
  | .nil => 1
  | .ptr d => uptoBulk d + 1
  | .slice elems spare => uptoBulkAll elems + uptoBulkAll spare + 1
  | .agg parts => uptoBulkAll parts + 1
  | .iface _ d => uptoBulk d + 1
  | .map entries => uptoBulkEntries entries + 1
  | .held _ => 1
def uptoBulkAll {H : Type} : List (DataW H) → Nat
  | [] => 0
  | d :: r => uptoBulk d + uptoBulkAll r
def uptoBulkEntries {H : Type} : List (Lit × DataW H) → Nat
  | [] => 0
  | x :: r => uptoBulkEntry x + uptoBulkEntries r
def uptoBulkEntry {H : Type} : Lit × DataW H → Nat
  | (.string bytes, d) => bytes.length + uptoBulk d + 1
  | (_, d) => uptoBulk d + 1
 end
def uptoSmall : (H : Type) → List (DataW H) → Bool := fun _ ds => decide (uptoBulkAll ds ≤ 1048576)
def OpenSpec.upto (s : _root_.Go.ChangeSpec) : _root_.Go.OpenSpec := { _root_.Go.OpenSpec.ofChange s with cond := some uptoSmall }

/-- 'billinglaw49.DisputeOpens', WHERE WHAT IT READS IS OF BULK AT MOST 1048576: true; the input reads as it did. -/
def disputeOpensUptoRow : OpenClaim := { program := "ythidlakkpdbeaaa", sum := "68de76a98026797c25f9a772a31d1a442f98163752da4b2a1bbeec105557cd99", func := "billing/billinglaw49.DisputeOpens", spec := "disputeOpens", inPlace := ["slices.overlaps[billing/api.Dispute]"], unfollowed := true, recurses := true, apart := false, narrowed := true }
def DisputeOpensUptoSaid : Prop := disputeOpensUptoRow.holds Try.pinned (OpenSpec.upto disputeOpensSpec)

/-- 'billinglaw49.DisputeSums', WHERE WHAT IT READS IS OF BULK AT MOST 1048576: true; the input reads as it did. -/
def disputeSumsUptoRow : OpenClaim := { program := "ythidlakkpdbeaaa", sum := "68de76a98026797c25f9a772a31d1a442f98163752da4b2a1bbeec105557cd99", func := "billing/billinglaw49.DisputeSums", spec := "disputeSums", inPlace := ["slices.overlaps[billing/api.Dispute]"], unfollowed := true, recurses := true, apart := false, narrowed := true }
def DisputeSumsUptoSaid : Prop := disputeSumsUptoRow.holds Try.pinned (OpenSpec.upto disputeSumsSpec)

/-- 'billinglaw49.DisputeOnce', WHERE WHAT IT READS IS OF BULK AT MOST 1048576: true; the input reads as it did. -/
def disputeOnceUptoRow : OpenClaim := { program := "ythidlakkpdbeaaa", sum := "68de76a98026797c25f9a772a31d1a442f98163752da4b2a1bbeec105557cd99", func := "billing/billinglaw49.DisputeOnce", spec := "disputeOnce", inPlace := ["slices.overlaps[billing/api.Dispute]"], unfollowed := true, recurses := true, apart := false, narrowed := true }
def DisputeOnceUptoSaid : Prop := disputeOnceUptoRow.holds Try.pinned (OpenSpec.upto disputeOnceSpec)

/-- 'billinglaw49.DisputeDecides', WHERE WHAT IT READS IS OF BULK AT MOST 1048576: true; the input reads as it did. -/
def disputeDecidesUptoRow : OpenClaim := { program := "ythidlakkpdbeaaa", sum := "68de76a98026797c25f9a772a31d1a442f98163752da4b2a1bbeec105557cd99", func := "billing/billinglaw49.DisputeDecides", spec := "disputeDecides", inPlace := ["slices.overlaps[billing/api.Dispute]"], unfollowed := true, recurses := true, apart := false, narrowed := true }
def DisputeDecidesUptoSaid : Prop := disputeDecidesUptoRow.holds Try.pinned (OpenSpec.upto disputeDecidesSpec)

/-- 'billinglaw49.DisputeKeeps', WHERE WHAT IT READS IS OF BULK AT MOST 1048576: true; the input reads as it did. -/
def disputeKeepsUptoRow : OpenClaim := { program := "ythidlakkpdbeaaa", sum := "68de76a98026797c25f9a772a31d1a442f98163752da4b2a1bbeec105557cd99", func := "billing/billinglaw49.DisputeKeeps", spec := "disputeKeeps", inPlace := ["slices.overlaps[billing/api.Dispute]"], unfollowed := true, recurses := true, apart := false, narrowed := true }
def DisputeKeepsUptoSaid : Prop := disputeKeepsUptoRow.holds Try.pinned (OpenSpec.upto disputeKeepsSpec)

end Rows
end Go.Proofs.Ythidlakkpdbeaaa
