/-
  Customers: used, id, has, changes. No condition.
-/
import Derived.Test.YteaanngagcflhaaCuM
import Derived.Test.YteaanngagcflhaaCuT
import Derived.Test.YteaanngagcflhaaCuV
import Derived.BigQuiet
import Derived.StillTailTactics
import Derived.Lib.Overlaps
import Derived.Deep.DeepCutAuto
import Derived.Deep.RegionWith
import Derived.Laws.RangeAny
set_option maxRecDepth 100000
set_option linter.unusedVariables false
set_option linter.unusedSimpArgs false
namespace Go.Proofs.Yteaanngagcflhaa
open Go.RowKit

namespace Cu
theorem setRun_is {w : World} {g : Nat} {old vs : List Value} (hold : ∀ j u, old[j]? = some u → w.cell? ⟨g, 0 + j, none⟩ = some u) (hl : vs.length ≤ old.length) : ∀ j v, vs[j]? = some v → (setRun w g 0 vs).cell? ⟨g, j, none⟩ = some v := fun j v hv => by
  have := setRun_at vs w g 0 old hold hl j v hv
  rw [Nat.zero_add] at this
  exact this
theorem five {w : World} {g : Nat} {v0 v1 v2 v3 v4 : Value} (h0 : w.cell? ⟨g, 0, none⟩ = some v0) (h1 : w.cell? ⟨g, 1, none⟩ = some v1) (h2 : w.cell? ⟨g, 2, none⟩ = some v2) (h3 : w.cell? ⟨g, 3, none⟩ = some v3) (h4 : w.cell? ⟨g, 4, none⟩ = some v4) :
    ∀ j u, [v0, v1, v2, v3, v4][j]? = some u → w.cell? ⟨g, 0 + j, none⟩ = some u := fun j u hu => by
  match j, hu with
  | 0, hu => cases hu; exact h0
  | 1, hu => cases hu; exact h1
  | 2, hu => cases hu; exact h2
  | 3, hu => cases hu; exact h3
  | 4, hu => cases hu; exact h4
def usedV (k : Int) : List Value := [.bool (uA k), .bool (uS k), .bool (uN k), .bool (uM k), .bool (uV k)]
set_option maxHeartbeats 4000000 in
theorem used_any (k : Int) (w : World) : Calls Try.prog 92 #[.int .i64 k] w fun e w' => e = .returned (.agg ⟨usedV k⟩) ∧ Below w.heap.size w w' := by
  have key : (k = 1 ∨ k = 2 ∨ k = 3 ∨ k = 5 ∨ k = 6 ∨ k = 7 ∨ k = 8 ∨ k = 9 ∨ k = 14 ∨ k = 15) ∨ (k ≠ 1 ∧ k ≠ 2 ∧ k ≠ 3 ∧ k ≠ 5 ∧ k ≠ 6 ∧ k ≠ 7 ∧ k ≠ 8 ∧ k ≠ 9 ∧ k ≠ 14 ∧ k ≠ 15) := by omega
  rcases key with key | ⟨n1, n2, n3, n5, n6, n7, n8, n9, n14, n15⟩
  · rcases key with rfl | rfl | rfl | rfl | rfl | rfl | rfl | rfl | rfl | rfl
    · go_enter Try.func92, Try.ntmps92
      go_upto_region 1 with (fail)
      (obtain ⟨W, hWW, hbW, hzW, f1W, qfa⟩ := box1 w #[.bool false, .bool false, .bool false, .bool false, .bool false] 130; rw [← hWW]; have qa0 : W.cell? ⟨w.heap.size, 0, none⟩ = some (.bool false) := f1W 0 _ rfl; have qa1 : W.cell? ⟨w.heap.size, 1, none⟩ = some (.bool false) := f1W 1 _ rfl; have qa2 : W.cell? ⟨w.heap.size, 2, none⟩ = some (.bool false) := f1W 2 _ rfl; have qa3 : W.cell? ⟨w.heap.size, 3, none⟩ = some (.bool false) := f1W 3 _ rfl; have qa4 : W.cell? ⟨w.heap.size, 4, none⟩ = some (.bool false) := f1W 4 _ rfl; clear hWW f1W)
      go_wp2_with fail
      have hr := setRun_is (vs := [.bool true, .bool false, .bool false, .bool true, .bool true]) (five qa0 qa1 qa2 qa3 qa4) (Nat.le_refl _)
      refine bodyPost_ret (results_cells rfl _ _ w.heap.size ⟨[.bool true, .bool false, .bool false, .bool true, .bool true]⟩ _ rfl hr rfl rfl rfl) rfl ?_
      exact ⟨rfl, setRun_below ([.bool true, .bool false, .bool false, .bool true, .bool true]) w.heap.size 0 hbW (Nat.le_refl _)⟩
    · go_enter Try.func92, Try.ntmps92
      go_upto_region 1 with (fail)
      (obtain ⟨W, hWW, hbW, hzW, f1W, qfa⟩ := box1 w #[.bool false, .bool false, .bool false, .bool false, .bool false] 130; rw [← hWW]; have qa0 : W.cell? ⟨w.heap.size, 0, none⟩ = some (.bool false) := f1W 0 _ rfl; have qa1 : W.cell? ⟨w.heap.size, 1, none⟩ = some (.bool false) := f1W 1 _ rfl; have qa2 : W.cell? ⟨w.heap.size, 2, none⟩ = some (.bool false) := f1W 2 _ rfl; have qa3 : W.cell? ⟨w.heap.size, 3, none⟩ = some (.bool false) := f1W 3 _ rfl; have qa4 : W.cell? ⟨w.heap.size, 4, none⟩ = some (.bool false) := f1W 4 _ rfl; clear hWW f1W)
      go_wp2_with fail
      have hr := setRun_is (vs := [.bool true, .bool false, .bool false, .bool false, .bool false]) (five qa0 qa1 qa2 qa3 qa4) (Nat.le_refl _)
      refine bodyPost_ret (results_cells rfl _ _ w.heap.size ⟨[.bool true, .bool false, .bool false, .bool false, .bool false]⟩ _ rfl hr rfl rfl rfl) rfl ?_
      exact ⟨rfl, setRun_below ([.bool true, .bool false, .bool false, .bool false, .bool false]) w.heap.size 0 hbW (Nat.le_refl _)⟩
    · go_enter Try.func92, Try.ntmps92
      go_upto_region 1 with (fail)
      (obtain ⟨W, hWW, hbW, hzW, f1W, qfa⟩ := box1 w #[.bool false, .bool false, .bool false, .bool false, .bool false] 130; rw [← hWW]; have qa0 : W.cell? ⟨w.heap.size, 0, none⟩ = some (.bool false) := f1W 0 _ rfl; have qa1 : W.cell? ⟨w.heap.size, 1, none⟩ = some (.bool false) := f1W 1 _ rfl; have qa2 : W.cell? ⟨w.heap.size, 2, none⟩ = some (.bool false) := f1W 2 _ rfl; have qa3 : W.cell? ⟨w.heap.size, 3, none⟩ = some (.bool false) := f1W 3 _ rfl; have qa4 : W.cell? ⟨w.heap.size, 4, none⟩ = some (.bool false) := f1W 4 _ rfl; clear hWW f1W)
      go_wp2_with fail
      have hr := setRun_is (vs := [.bool true, .bool true, .bool false, .bool true, .bool false]) (five qa0 qa1 qa2 qa3 qa4) (Nat.le_refl _)
      refine bodyPost_ret (results_cells rfl _ _ w.heap.size ⟨[.bool true, .bool true, .bool false, .bool true, .bool false]⟩ _ rfl hr rfl rfl rfl) rfl ?_
      exact ⟨rfl, setRun_below ([.bool true, .bool true, .bool false, .bool true, .bool false]) w.heap.size 0 hbW (Nat.le_refl _)⟩
    · go_enter Try.func92, Try.ntmps92
      go_upto_region 1 with (fail)
      (obtain ⟨W, hWW, hbW, hzW, f1W, qfa⟩ := box1 w #[.bool false, .bool false, .bool false, .bool false, .bool false] 130; rw [← hWW]; have qa0 : W.cell? ⟨w.heap.size, 0, none⟩ = some (.bool false) := f1W 0 _ rfl; have qa1 : W.cell? ⟨w.heap.size, 1, none⟩ = some (.bool false) := f1W 1 _ rfl; have qa2 : W.cell? ⟨w.heap.size, 2, none⟩ = some (.bool false) := f1W 2 _ rfl; have qa3 : W.cell? ⟨w.heap.size, 3, none⟩ = some (.bool false) := f1W 3 _ rfl; have qa4 : W.cell? ⟨w.heap.size, 4, none⟩ = some (.bool false) := f1W 4 _ rfl; clear hWW f1W)
      go_wp2_with fail
      have hr := setRun_is (vs := [.bool false, .bool true, .bool true, .bool false, .bool false]) (five qa0 qa1 qa2 qa3 qa4) (Nat.le_refl _)
      refine bodyPost_ret (results_cells rfl _ _ w.heap.size ⟨[.bool false, .bool true, .bool true, .bool false, .bool false]⟩ _ rfl hr rfl rfl rfl) rfl ?_
      exact ⟨rfl, setRun_below ([.bool false, .bool true, .bool true, .bool false, .bool false]) w.heap.size 0 hbW (Nat.le_refl _)⟩
    · go_enter Try.func92, Try.ntmps92
      go_upto_region 1 with (fail)
      (obtain ⟨W, hWW, hbW, hzW, f1W, qfa⟩ := box1 w #[.bool false, .bool false, .bool false, .bool false, .bool false] 130; rw [← hWW]; have qa0 : W.cell? ⟨w.heap.size, 0, none⟩ = some (.bool false) := f1W 0 _ rfl; have qa1 : W.cell? ⟨w.heap.size, 1, none⟩ = some (.bool false) := f1W 1 _ rfl; have qa2 : W.cell? ⟨w.heap.size, 2, none⟩ = some (.bool false) := f1W 2 _ rfl; have qa3 : W.cell? ⟨w.heap.size, 3, none⟩ = some (.bool false) := f1W 3 _ rfl; have qa4 : W.cell? ⟨w.heap.size, 4, none⟩ = some (.bool false) := f1W 4 _ rfl; clear hWW f1W)
      go_wp2_with fail
      have hr := setRun_is (vs := [.bool false, .bool true, .bool true, .bool false, .bool false]) (five qa0 qa1 qa2 qa3 qa4) (Nat.le_refl _)
      refine bodyPost_ret (results_cells rfl _ _ w.heap.size ⟨[.bool false, .bool true, .bool true, .bool false, .bool false]⟩ _ rfl hr rfl rfl rfl) rfl ?_
      exact ⟨rfl, setRun_below ([.bool false, .bool true, .bool true, .bool false, .bool false]) w.heap.size 0 hbW (Nat.le_refl _)⟩
    · go_enter Try.func92, Try.ntmps92
      go_upto_region 1 with (fail)
      (obtain ⟨W, hWW, hbW, hzW, f1W, qfa⟩ := box1 w #[.bool false, .bool false, .bool false, .bool false, .bool false] 130; rw [← hWW]; have qa0 : W.cell? ⟨w.heap.size, 0, none⟩ = some (.bool false) := f1W 0 _ rfl; have qa1 : W.cell? ⟨w.heap.size, 1, none⟩ = some (.bool false) := f1W 1 _ rfl; have qa2 : W.cell? ⟨w.heap.size, 2, none⟩ = some (.bool false) := f1W 2 _ rfl; have qa3 : W.cell? ⟨w.heap.size, 3, none⟩ = some (.bool false) := f1W 3 _ rfl; have qa4 : W.cell? ⟨w.heap.size, 4, none⟩ = some (.bool false) := f1W 4 _ rfl; clear hWW f1W)
      go_wp2_with fail
      have hr := setRun_is (vs := [.bool false, .bool true, .bool false, .bool true, .bool false]) (five qa0 qa1 qa2 qa3 qa4) (Nat.le_refl _)
      refine bodyPost_ret (results_cells rfl _ _ w.heap.size ⟨[.bool false, .bool true, .bool false, .bool true, .bool false]⟩ _ rfl hr rfl rfl rfl) rfl ?_
      exact ⟨rfl, setRun_below ([.bool false, .bool true, .bool false, .bool true, .bool false]) w.heap.size 0 hbW (Nat.le_refl _)⟩
    · go_enter Try.func92, Try.ntmps92
      go_upto_region 1 with (fail)
      (obtain ⟨W, hWW, hbW, hzW, f1W, qfa⟩ := box1 w #[.bool false, .bool false, .bool false, .bool false, .bool false] 130; rw [← hWW]; have qa0 : W.cell? ⟨w.heap.size, 0, none⟩ = some (.bool false) := f1W 0 _ rfl; have qa1 : W.cell? ⟨w.heap.size, 1, none⟩ = some (.bool false) := f1W 1 _ rfl; have qa2 : W.cell? ⟨w.heap.size, 2, none⟩ = some (.bool false) := f1W 2 _ rfl; have qa3 : W.cell? ⟨w.heap.size, 3, none⟩ = some (.bool false) := f1W 3 _ rfl; have qa4 : W.cell? ⟨w.heap.size, 4, none⟩ = some (.bool false) := f1W 4 _ rfl; clear hWW f1W)
      go_wp2_with fail
      have hr := setRun_is (vs := [.bool false, .bool true, .bool false, .bool true, .bool false]) (five qa0 qa1 qa2 qa3 qa4) (Nat.le_refl _)
      refine bodyPost_ret (results_cells rfl _ _ w.heap.size ⟨[.bool false, .bool true, .bool false, .bool true, .bool false]⟩ _ rfl hr rfl rfl rfl) rfl ?_
      exact ⟨rfl, setRun_below ([.bool false, .bool true, .bool false, .bool true, .bool false]) w.heap.size 0 hbW (Nat.le_refl _)⟩
    · go_enter Try.func92, Try.ntmps92
      go_upto_region 1 with (fail)
      (obtain ⟨W, hWW, hbW, hzW, f1W, qfa⟩ := box1 w #[.bool false, .bool false, .bool false, .bool false, .bool false] 130; rw [← hWW]; have qa0 : W.cell? ⟨w.heap.size, 0, none⟩ = some (.bool false) := f1W 0 _ rfl; have qa1 : W.cell? ⟨w.heap.size, 1, none⟩ = some (.bool false) := f1W 1 _ rfl; have qa2 : W.cell? ⟨w.heap.size, 2, none⟩ = some (.bool false) := f1W 2 _ rfl; have qa3 : W.cell? ⟨w.heap.size, 3, none⟩ = some (.bool false) := f1W 3 _ rfl; have qa4 : W.cell? ⟨w.heap.size, 4, none⟩ = some (.bool false) := f1W 4 _ rfl; clear hWW f1W)
      go_wp2_with fail
      have hr := setRun_is (vs := [.bool false, .bool true, .bool false, .bool true, .bool false]) (five qa0 qa1 qa2 qa3 qa4) (Nat.le_refl _)
      refine bodyPost_ret (results_cells rfl _ _ w.heap.size ⟨[.bool false, .bool true, .bool false, .bool true, .bool false]⟩ _ rfl hr rfl rfl rfl) rfl ?_
      exact ⟨rfl, setRun_below ([.bool false, .bool true, .bool false, .bool true, .bool false]) w.heap.size 0 hbW (Nat.le_refl _)⟩
    · go_enter Try.func92, Try.ntmps92
      go_upto_region 1 with (fail)
      (obtain ⟨W, hWW, hbW, hzW, f1W, qfa⟩ := box1 w #[.bool false, .bool false, .bool false, .bool false, .bool false] 130; rw [← hWW]; have qa0 : W.cell? ⟨w.heap.size, 0, none⟩ = some (.bool false) := f1W 0 _ rfl; have qa1 : W.cell? ⟨w.heap.size, 1, none⟩ = some (.bool false) := f1W 1 _ rfl; have qa2 : W.cell? ⟨w.heap.size, 2, none⟩ = some (.bool false) := f1W 2 _ rfl; have qa3 : W.cell? ⟨w.heap.size, 3, none⟩ = some (.bool false) := f1W 3 _ rfl; have qa4 : W.cell? ⟨w.heap.size, 4, none⟩ = some (.bool false) := f1W 4 _ rfl; clear hWW f1W)
      go_wp2_with fail
      have hr := setRun_is (vs := [.bool true, .bool false, .bool false, .bool false, .bool true]) (five qa0 qa1 qa2 qa3 qa4) (Nat.le_refl _)
      refine bodyPost_ret (results_cells rfl _ _ w.heap.size ⟨[.bool true, .bool false, .bool false, .bool false, .bool true]⟩ _ rfl hr rfl rfl rfl) rfl ?_
      exact ⟨rfl, setRun_below ([.bool true, .bool false, .bool false, .bool false, .bool true]) w.heap.size 0 hbW (Nat.le_refl _)⟩
    · go_enter Try.func92, Try.ntmps92
      go_upto_region 1 with (fail)
      (obtain ⟨W, hWW, hbW, hzW, f1W, qfa⟩ := box1 w #[.bool false, .bool false, .bool false, .bool false, .bool false] 130; rw [← hWW]; have qa0 : W.cell? ⟨w.heap.size, 0, none⟩ = some (.bool false) := f1W 0 _ rfl; have qa1 : W.cell? ⟨w.heap.size, 1, none⟩ = some (.bool false) := f1W 1 _ rfl; have qa2 : W.cell? ⟨w.heap.size, 2, none⟩ = some (.bool false) := f1W 2 _ rfl; have qa3 : W.cell? ⟨w.heap.size, 3, none⟩ = some (.bool false) := f1W 3 _ rfl; have qa4 : W.cell? ⟨w.heap.size, 4, none⟩ = some (.bool false) := f1W 4 _ rfl; clear hWW f1W)
      go_wp2_with fail
      have hr := setRun_is (vs := [.bool true, .bool false, .bool false, .bool false, .bool true]) (five qa0 qa1 qa2 qa3 qa4) (Nat.le_refl _)
      refine bodyPost_ret (results_cells rfl _ _ w.heap.size ⟨[.bool true, .bool false, .bool false, .bool false, .bool true]⟩ _ rfl hr rfl rfl rfl) rfl ?_
      exact ⟨rfl, setRun_below ([.bool true, .bool false, .bool false, .bool false, .bool true]) w.heap.size 0 hbW (Nat.le_refl _)⟩
  · have hv : usedV k = [.bool false, .bool true, .bool false, .bool false, .bool false] := by unfold usedV uA uS uN uM uV; simp [n1, n2, n3, n5, n6, n7, n8, n9, n14, n15]
    have b1 : (k == 1) = false := by simpa using n1
    have b2 : (k == 2) = false := by simpa using n2
    have b3 : (k == 3) = false := by simpa using n3
    have b5 : (k == 5) = false := by simpa using n5
    have b6 : (k == 6) = false := by simpa using n6
    have b7 : (k == 7) = false := by simpa using n7
    have b8 : (k == 8) = false := by simpa using n8
    have b9 : (k == 9) = false := by simpa using n9
    have b14 : (k == 14) = false := by simpa using n14
    have b15 : (k == 15) = false := by simpa using n15
    go_enter Try.func92, Try.ntmps92
    go_upto_region 1 with (fail)
    (obtain ⟨W, hWW, hbW, hzW, f1W, qfa⟩ := box1 w #[.bool false, .bool false, .bool false, .bool false, .bool false] 130; rw [← hWW]; have qa0 : W.cell? ⟨w.heap.size, 0, none⟩ = some (.bool false) := f1W 0 _ rfl; have qa1 : W.cell? ⟨w.heap.size, 1, none⟩ = some (.bool false) := f1W 1 _ rfl; have qa2 : W.cell? ⟨w.heap.size, 2, none⟩ = some (.bool false) := f1W 2 _ rfl; have qa3 : W.cell? ⟨w.heap.size, 3, none⟩ = some (.bool false) := f1W 3 _ rfl; have qa4 : W.cell? ⟨w.heap.size, 4, none⟩ = some (.bool false) := f1W 4 _ rfl; clear hWW f1W)
    go_wp2_with fail
    have hr := setRun_is (vs := [.bool false, .bool true, .bool false, .bool false, .bool false]) (five qa0 qa1 qa2 qa3 qa4) (Nat.le_refl _)
    refine bodyPost_ret (results_cells rfl _ _ w.heap.size ⟨[.bool false, .bool true, .bool false, .bool false, .bool false]⟩ _ rfl hr rfl rfl rfl) rfl ?_
    exact ⟨by rw [hv], setRun_below ([.bool false, .bool true, .bool false, .bool false, .bool false]) w.heap.size 0 hbW (Nat.le_refl _)⟩
end Cu
end Go.Proofs.Yteaanngagcflhaa
