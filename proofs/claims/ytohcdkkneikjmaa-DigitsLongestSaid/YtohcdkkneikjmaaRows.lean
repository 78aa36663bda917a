/-
  No cell of these rows narrows 'for every input' (looked for: loops, veiled, ifaces, maps, wideKeys, modest, calm, conditions, laid).
  DERIVED. THE GIVEN ROWS OF THIS SEAT. 7 by the template 'for every input the law returns true; each argument reads behind the call as it read before'; 0 by the template 'total and deterministic' (their statements: YtohcdkkneikjmaaTotals.lean).
  GIVEN WITH THE SEED: the statements are not yours to turn. If you find one false, say at which input.
  Laid BY PROGRAM, IN A SANDBOX (cutbox-rows.mjs): the forced cells as the released guide's own fill.sh prints them over the translation adc33cd2afabbab7… (all of the seat's roots in one cut). By AI agents, Wed Nov 11 2026. No macro, syntax, notation, axiom, sorry.
-/
import Derived.Test.YtohcdkkneikjmaaChecked
import GoSem.Claim
import GoSem.ClaimJoined
import GoSem.ClaimMapViews
import Derived.JoinedTies
import Derived.KernelRfl
namespace Go.Proofs.Ytohcdkkneikjmaa
/- THE CELL 'sum', in the pinned program and in every row, IS THE sha256 OF THE DUMP (.gsa) THAT YtohcdkkneikjmaaProg.lean LOADS. Nothing in Lean hashes anything: it is a label: what it is worth is what the hold of that sum in a sandbox is worth. -/
noncomputable def Try.pinned : Pinned := { name := "ytohcdkkneikjmaa", sum := "adc33cd2afabbab71e78e876a60e5eda72d41c98651ccbea5220c479e442e03c", checked := Try.checked }
namespace Rows
def none {H : Type} : Left H := { results := [], args := [] }

/-- 'billinglaw02.DigitsLongest': WHATEVER THE INPUT: true; the input reads as it did. -/
def digitsLongestSpec : ChangeSpec := { name := "digitsLongest", fn := fun _ => fun
  | [d1, d2, d3] => { results := [.lit (.bool true)], args := [d1, d2, d3] }
  | _ => none }
def digitsLongestRow : OpenClaim := { program := "ytohcdkkneikjmaa", sum := "adc33cd2afabbab71e78e876a60e5eda72d41c98651ccbea5220c479e442e03c", func := "billing/billinglaw02.DigitsLongest", spec := "digitsLongest", inPlace := ["internal/abi.NoEscape", "internal/bytealg.MakeNoZero"], apart := false }
def DigitsLongestSaid : Prop := digitsLongestRow.holds Try.pinned (OpenSpec.ofChange digitsLongestSpec)

/-- ITS FALSE NEIGHBOUR: 'it returns false'. Refute it at one input. -/
def digitsLongestWrong : ChangeSpec := { name := "digitsLongest", fn := fun _ => fun
  | [d1, d2, d3] => { results := [.lit (.bool false)], args := [d1, d2, d3] }
  | _ => none }
def DigitsLongestWrongFalsely : Prop := digitsLongestRow.holds Try.pinned (OpenSpec.ofChange digitsLongestWrong)

/-- 'billinglaw02.DigitsNormal': WHATEVER THE INPUT: true; the input reads as it did. -/
def digitsNormalSpec : ChangeSpec := { name := "digitsNormal", fn := fun _ => fun
  | [d1, d2] => { results := [.lit (.bool true)], args := [d1, d2] }
  | _ => none }
def digitsNormalRow : OpenClaim := { program := "ytohcdkkneikjmaa", sum := "adc33cd2afabbab71e78e876a60e5eda72d41c98651ccbea5220c479e442e03c", func := "billing/billinglaw02.DigitsNormal", spec := "digitsNormal", inPlace := ["internal/abi.NoEscape", "internal/bytealg.MakeNoZero"], apart := false }
def DigitsNormalSaid : Prop := digitsNormalRow.holds Try.pinned (OpenSpec.ofChange digitsNormalSpec)

/-- ITS FALSE NEIGHBOUR: 'it returns false'. Refute it at one input. -/
def digitsNormalWrong : ChangeSpec := { name := "digitsNormal", fn := fun _ => fun
  | [d1, d2] => { results := [.lit (.bool false)], args := [d1, d2] }
  | _ => none }
def DigitsNormalWrongFalsely : Prop := digitsNormalRow.holds Try.pinned (OpenSpec.ofChange digitsNormalWrong)

/-- 'billinglaw02.DigitsBack': WHATEVER THE INPUT: true; the input reads as it did. -/
def digitsBackSpec : ChangeSpec := { name := "digitsBack", fn := fun _ => fun
  | [d] => { results := [.lit (.bool true)], args := [d] }
  | _ => none }
def digitsBackRow : OpenClaim := { program := "ytohcdkkneikjmaa", sum := "adc33cd2afabbab71e78e876a60e5eda72d41c98651ccbea5220c479e442e03c", func := "billing/billinglaw02.DigitsBack", spec := "digitsBack", inPlace := ["internal/abi.NoEscape", "internal/bytealg.MakeNoZero"], apart := false }
def DigitsBackSaid : Prop := digitsBackRow.holds Try.pinned (OpenSpec.ofChange digitsBackSpec)

/-- ITS FALSE NEIGHBOUR: 'it returns false'. Refute it at one input. -/
def digitsBackWrong : ChangeSpec := { name := "digitsBack", fn := fun _ => fun
  | [d] => { results := [.lit (.bool false)], args := [d] }
  | _ => none }
def DigitsBackWrongFalsely : Prop := digitsBackRow.holds Try.pinned (OpenSpec.ofChange digitsBackWrong)

/-- 'billinglaw02.DigitsUnpack': WHATEVER THE INPUT: true; the input reads as it did. -/
def digitsUnpackSpec : ChangeSpec := { name := "digitsUnpack", fn := fun _ => fun
  | [d] => { results := [.lit (.bool true)], args := [d] }
  | _ => none }
def digitsUnpackRow : OpenClaim := { program := "ytohcdkkneikjmaa", sum := "adc33cd2afabbab71e78e876a60e5eda72d41c98651ccbea5220c479e442e03c", func := "billing/billinglaw02.DigitsUnpack", spec := "digitsUnpack", inPlace := ["internal/abi.NoEscape", "internal/bytealg.MakeNoZero"], apart := false }
def DigitsUnpackSaid : Prop := digitsUnpackRow.holds Try.pinned (OpenSpec.ofChange digitsUnpackSpec)

/-- ITS FALSE NEIGHBOUR: 'it returns false'. Refute it at one input. -/
def digitsUnpackWrong : ChangeSpec := { name := "digitsUnpack", fn := fun _ => fun
  | [d] => { results := [.lit (.bool false)], args := [d] }
  | _ => none }
def DigitsUnpackWrongFalsely : Prop := digitsUnpackRow.holds Try.pinned (OpenSpec.ofChange digitsUnpackWrong)

/-- 'billinglaw02.DigitsMask': WHATEVER THE INPUT: true; the input reads as it did. -/
def digitsMaskSpec : ChangeSpec := { name := "digitsMask", fn := fun _ => fun
  | [d1, d2] => { results := [.lit (.bool true)], args := [d1, d2] }
  | _ => none }
def digitsMaskRow : OpenClaim := { program := "ytohcdkkneikjmaa", sum := "adc33cd2afabbab71e78e876a60e5eda72d41c98651ccbea5220c479e442e03c", func := "billing/billinglaw02.DigitsMask", spec := "digitsMask", inPlace := ["internal/abi.NoEscape", "internal/bytealg.MakeNoZero"], apart := false }
def DigitsMaskSaid : Prop := digitsMaskRow.holds Try.pinned (OpenSpec.ofChange digitsMaskSpec)

/-- ITS FALSE NEIGHBOUR: 'it returns false'. Refute it at one input. -/
def digitsMaskWrong : ChangeSpec := { name := "digitsMask", fn := fun _ => fun
  | [d1, d2] => { results := [.lit (.bool false)], args := [d1, d2] }
  | _ => none }
def DigitsMaskWrongFalsely : Prop := digitsMaskRow.holds Try.pinned (OpenSpec.ofChange digitsMaskWrong)

/-- 'billinglaw02.DigitsTells': WHATEVER THE INPUT: true; the input reads as it did. -/
def digitsTellsSpec : ChangeSpec := { name := "digitsTells", fn := fun _ => fun
  | [d1, d2] => { results := [.lit (.bool true)], args := [d1, d2] }
  | _ => none }
def digitsTellsRow : OpenClaim := { program := "ytohcdkkneikjmaa", sum := "adc33cd2afabbab71e78e876a60e5eda72d41c98651ccbea5220c479e442e03c", func := "billing/billinglaw02.DigitsTells", spec := "digitsTells", inPlace := ["internal/abi.NoEscape", "internal/bytealg.MakeNoZero"], apart := false }
def DigitsTellsSaid : Prop := digitsTellsRow.holds Try.pinned (OpenSpec.ofChange digitsTellsSpec)

/-- ITS FALSE NEIGHBOUR: 'it returns false'. Refute it at one input. -/
def digitsTellsWrong : ChangeSpec := { name := "digitsTells", fn := fun _ => fun
  | [d1, d2] => { results := [.lit (.bool false)], args := [d1, d2] }
  | _ => none }
def DigitsTellsWrongFalsely : Prop := digitsTellsRow.holds Try.pinned (OpenSpec.ofChange digitsTellsWrong)

/-- 'billinglaw02.DigitsOrder': WHATEVER THE INPUT: true; the input reads as it did. -/
def digitsOrderSpec : ChangeSpec := { name := "digitsOrder", fn := fun _ => fun
  | [d1, d2, d3] => { results := [.lit (.bool true)], args := [d1, d2, d3] }
  | _ => none }
def digitsOrderRow : OpenClaim := { program := "ytohcdkkneikjmaa", sum := "adc33cd2afabbab71e78e876a60e5eda72d41c98651ccbea5220c479e442e03c", func := "billing/billinglaw02.DigitsOrder", spec := "digitsOrder", inPlace := ["internal/abi.NoEscape", "internal/bytealg.MakeNoZero"], apart := false }
def DigitsOrderSaid : Prop := digitsOrderRow.holds Try.pinned (OpenSpec.ofChange digitsOrderSpec)

/-- ITS FALSE NEIGHBOUR: 'it returns false'. Refute it at one input. -/
def digitsOrderWrong : ChangeSpec := { name := "digitsOrder", fn := fun _ => fun
  | [d1, d2, d3] => { results := [.lit (.bool false)], args := [d1, d2, d3] }
  | _ => none }
def DigitsOrderWrongFalsely : Prop := digitsOrderRow.holds Try.pinned (OpenSpec.ofChange digitsOrderWrong)

/- THE SECOND FORM. 'bulk': how many values and letters a reading holds, each counted each time it is reached (what is shared counts as often as it is met; a slice's spare places count too). A statement '..UptoSaid' is the law's where the arguments, and the package variables that the reading takes, are together of bulk at most 1048576: NARROWER than '..Said'. Prove '..Said' where nothing that the law and all that it calls make is longer than what came in: it says more and counts as full. Else prove '..UptoSaid'. A law counts once. -/
mutual
def uptoBulk {H : Type} : DataW H → Nat
  | .lit (.string bytes) => bytes.length + 1
  | .lit _ => 1
  | .nil => 1
  | .ptr d => uptoBulk d + 1
  | .slice elems spare => uptoBulkAll elems + uptoBulkAll spare + 1
  | .agg parts => uptoBulkAll parts + 1
  | .iface _ d => uptoBulk d + 1
  | .map entries => uptoBulkEntries entries + 1
  | .held _ => 1
def uptoBulkAll {H : Type} : List (DataW H) → Nat
  | [] => 0
  | d :: r => uptoBulk d + uptoBulkAll r
def uptoBulkEntries {H : Type} : List (Lit × DataW H) → Nat
  | [] => 0
  | x :: r => uptoBulkEntry x + uptoBulkEntries r
def uptoBulkEntry {H : Type} : Lit × DataW H → Nat
  | (.string bytes, d) => bytes.length + uptoBulk d + 1
  | (_, d) => uptoBulk d + 1
 end
def uptoSmall : (H : Type) → List (DataW H) → Bool := fun _ ds => decide (uptoBulkAll ds ≤ 1048576)
def OpenSpec.upto (s : _root_.Go.ChangeSpec) : _root_.Go.OpenSpec := { _root_.Go.OpenSpec.ofChange s with cond := some uptoSmall }

/-- 'billinglaw02.DigitsLongest', WHERE WHAT IT READS IS OF BULK AT MOST 1048576: true; the input reads as it did. -/
def digitsLongestUptoRow : OpenClaim := { program := "ytohcdkkneikjmaa", sum := "adc33cd2afabbab71e78e876a60e5eda72d41c98651ccbea5220c479e442e03c", func := "billing/billinglaw02.DigitsLongest", spec := "digitsLongest", inPlace := ["internal/abi.NoEscape", "internal/bytealg.MakeNoZero"], apart := false, narrowed := true }
def DigitsLongestUptoSaid : Prop := digitsLongestUptoRow.holds Try.pinned (OpenSpec.upto digitsLongestSpec)

/-- 'billinglaw02.DigitsNormal', WHERE WHAT IT READS IS OF BULK AT MOST 1048576: true; the input reads as it did. -/
def digitsNormalUptoRow : OpenClaim := { program := "ytohcdkkneikjmaa", sum := "adc33cd2afabbab71e78e876a60e5eda72d41c98651ccbea5220c479e442e03c", func := "billing/billinglaw02.DigitsNormal", spec := "digitsNormal", inPlace := ["internal/abi.NoEscape", "internal/bytealg.MakeNoZero"], apart := false, narrowed := true }
def DigitsNormalUptoSaid : Prop := digitsNormalUptoRow.holds Try.pinned (OpenSpec.upto digitsNormalSpec)

/-- 'billinglaw02.DigitsBack', WHERE WHAT IT READS IS OF BULK AT MOST 1048576: true; the input reads as it did. -/
def digitsBackUptoRow : OpenClaim := { program := "ytohcdkkneikjmaa", sum := "adc33cd2afabbab71e78e876a60e5eda72d41c98651ccbea5220c479e442e03c", func := "billing/billinglaw02.DigitsBack", spec := "digitsBack", inPlace := ["internal/abi.NoEscape", "internal/bytealg.MakeNoZero"], apart := false, narrowed := true }
def DigitsBackUptoSaid : Prop := digitsBackUptoRow.holds Try.pinned (OpenSpec.upto digitsBackSpec)

/-- 'billinglaw02.DigitsUnpack', WHERE WHAT IT READS IS OF BULK AT MOST 1048576: true; the input reads as it did. -/
def digitsUnpackUptoRow : OpenClaim := { program := "ytohcdkkneikjmaa", sum := "adc33cd2afabbab71e78e876a60e5eda72d41c98651ccbea5220c479e442e03c", func := "billing/billinglaw02.DigitsUnpack", spec := "digitsUnpack", inPlace := ["internal/abi.NoEscape", "internal/bytealg.MakeNoZero"], apart := false, narrowed := true }
def DigitsUnpackUptoSaid : Prop := digitsUnpackUptoRow.holds Try.pinned (OpenSpec.upto digitsUnpackSpec)

/-- 'billinglaw02.DigitsMask', WHERE WHAT IT READS IS OF BULK AT MOST 1048576: true; the input reads as it did. -/
def digitsMaskUptoRow : OpenClaim := { program := "ytohcdkkneikjmaa", sum := "adc33cd2afabbab71e78e876a60e5eda72d41c98651ccbea5220c479e442e03c", func := "billing/billinglaw02.DigitsMask", spec := "digitsMask", inPlace := ["internal/abi.NoEscape", "internal/bytealg.MakeNoZero"], apart := false, narrowed := true }
def DigitsMaskUptoSaid : Prop := digitsMaskUptoRow.holds Try.pinned (OpenSpec.upto digitsMaskSpec)

/-- 'billinglaw02.DigitsTells', WHERE WHAT IT READS IS OF BULK AT MOST 1048576: true; the input reads as it did. -/
def digitsTellsUptoRow : OpenClaim := { program := "ytohcdkkneikjmaa", sum := "adc33cd2afabbab71e78e876a60e5eda72d41c98651ccbea5220c479e442e03c", func := "billing/billinglaw02.DigitsTells", spec := "digitsTells", inPlace := ["internal/abi.NoEscape", "internal/bytealg.MakeNoZero"], apart := false, narrowed := true }
def DigitsTellsUptoSaid : Prop := digitsTellsUptoRow.holds Try.pinned (OpenSpec.upto digitsTellsSpec)

/-- 'billinglaw02.DigitsOrder', WHERE WHAT IT READS IS OF BULK AT MOST 1048576: true; the input reads as it did. -/
def digitsOrderUptoRow : OpenClaim := { program := "ytohcdkkneikjmaa", sum := "adc33cd2afabbab71e78e876a60e5eda72d41c98651ccbea5220c479e442e03c", func := "billing/billinglaw02.DigitsOrder", spec := "digitsOrder", inPlace := ["internal/abi.NoEscape", "internal/bytealg.MakeNoZero"], apart := false, narrowed := true }
def DigitsOrderUptoSaid : Prop := digitsOrderUptoRow.holds Try.pinned (OpenSpec.upto digitsOrderSpec)

end Rows
end Go.Proofs.Ytohcdkkneikjmaa
