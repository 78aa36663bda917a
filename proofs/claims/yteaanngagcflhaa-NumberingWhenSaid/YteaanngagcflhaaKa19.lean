/-
  Customers: an event inserted, in plain words. No condition.
-/
import Derived.Test.YteaanngagcflhaaKa18
import Derived.BigQuiet
import Derived.StillTailTactics
import Derived.Lib.Overlaps
import Derived.Deep.DeepCutAuto
import Derived.Deep.RegionWith
set_option maxRecDepth 100000
set_option linter.unusedVariables false
set_option linter.unusedSimpArgs false
namespace Go.Proofs.Yteaanngagcflhaa
open Go.RowKit
namespace Cu
theorem cutN_eq {l : List Ev} {t : Int} {k : Nat} (hk : k ≤ l.length) (h1 : ∀ (m : Nat) y, m < k → l[m]? = some y → y.at_ ≤ t) (h2 : ∀ y, l[k]? = some y → ¬ y.at_ ≤ t) : cutN l t = k := by
  unfold cutN
  induction l generalizing k with
  | nil => simp at hk; simp [hk]
  | cons x l ih =>
    cases k with
    | zero =>
      have := h2 x rfl
      rw [List.takeWhile_cons_of_neg (by simpa using this)]; rfl
    | succ k =>
      have := h1 0 x (by omega) rfl
      rw [List.takeWhile_cons_of_pos (by simpa using this), List.length_cons, ih (k := k) (by simpa using hk) (fun m y hm hy => h1 (m + 1) y (by omega) (by simpa using hy)) (fun y hy => h2 y (by simpa using hy))]
theorem of_sub {b : Bk} {e : Ev} {last : Int} (h : faultR b e last = 0) (hu : uA e.kind = false) : formR e last = 0 ∧ ofSub b e = 0 := by
  unfold faultR at h
  by_cases h1 : formR e last = 0
  · rw [if_neg (by simp [h1]), if_neg (by simp [hu])] at h
    exact ⟨h1, h⟩
  · rw [if_pos h1] at h; exact absurd h h1
end Cu
end Go.Proofs.Yteaanngagcflhaa
