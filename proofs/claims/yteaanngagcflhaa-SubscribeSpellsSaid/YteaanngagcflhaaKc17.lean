/-
  Customers: Check. No condition.
-/
import Derived.Test.YteaanngagcflhaaKc08
import Derived.Test.YteaanngagcflhaaKc16
import Derived.Test.YteaanngagcflhaaKc05
import Derived.Test.YteaanngagcflhaaKc12
import Derived.BigQuiet
import Derived.StillTailTactics
import Derived.Lib.Overlaps
import Derived.Deep.DeepCutAuto
import Derived.Deep.RegionWith
import Derived.Laws.RangeAny
import Derived.Deep.RegionHeld
import Derived.Deep.RegionHeldLaw
set_option maxRecDepth 100000
set_option linter.unusedVariables false
set_option linter.unusedSimpArgs false
namespace Go.Proofs.Yteaanngagcflhaa
open Go.RowKit
namespace Cu
open Go.Maps
def SzOk (l : List Ev) : Prop := ∀ e ∈ l, e.num.size ≤ maxLen ∧ e.name.size ≤ maxLen
theorem formR_fit {e : Ev} {last : Int} (h : formR e last = 0) : (1 ≤ e.kind ∧ e.kind ≤ 15) ∧ (Lit.int .i64 e.acc).wf = true ∧ (Lit.int .i64 e.sub).wf = true := by
  have wf : ∀ z : Int, 0 ≤ z → z ≤ 9999 → (Lit.int .i64 z).wf = true := fun z h1 h2 => by
    show (decide (IntKind.i64.min ≤ z) && decide (z ≤ IntKind.i64.max)) = true
    have e1 : IntKind.i64.min = -9223372036854775808 := by decide
    have e2 : IntKind.i64.max = 9223372036854775807 := by decide
    rw [e1, e2]
    simp
    omega
  unfold formR at h
  split at h
  · omega
  split at h
  · omega
  split at h
  · omega
  unfold formT at h
  split at h
  · omega
  split at h
  · omega
  rename_i hk _ _ hf hi
  have hk' : 1 ≤ e.kind ∧ e.kind ≤ 15 := by omega
  have ha : 0 ≤ e.acc ∧ e.acc ≤ 9999 := by
    by_cases hu : uA e.kind = true
    · have : idB e.acc = true := by
        cases hb : idB e.acc with
        | true => rfl
        | false => exact absurd (by unfold idBad; simp [hu, hb]) hi
      unfold idB at this; simp at this; omega
    · have : e.acc = 0 := by
        by_cases h0 : e.acc = 0
        · exact h0
        · exact absurd (by unfold fldBad; simp [hu, h0]) hf
      omega
  have hs : 0 ≤ e.sub ∧ e.sub ≤ 9999 := by
    by_cases hu : uS e.kind = true
    · have : idB e.sub = true := by
        cases hb : idB e.sub with
        | true => rfl
        | false => exact absurd (by unfold idBad; simp [hu, hb]) hi
      unfold idB at this; simp at this; omega
    · have : e.sub = 0 := by
        by_cases h0 : e.sub = 0
        · exact h0
        · exact absurd (by unfold fldBad; simp [hu, h0]) hf
      omega
  exact ⟨hk', wf _ ha.1 ha.2, wf _ hs.1 hs.2⟩
theorem fltN_at {l : List Ev} {k : Nat} {e : Ev} (he : l[k]? = some e) : fltN l k = faultR (bkN l k) e (lastN l k) := by unfold fltN; rw [he]
theorem lastN_succ {l : List Ev} {k : Nat} {e : Ev} (he : l[k]? = some e) : lastN l (k + 1) = e.at_ := by unfold lastN; simp [he]
end Cu
end Go.Proofs.Yteaanngagcflhaa
