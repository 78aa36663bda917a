/-
  Customers: the reference's uses, id, value, Name. No condition.
-/
import Derived.Test.YteaanngagcflhaaCuB
import Derived.Test.YteaanngagcflhaaCuE
import Derived.BigQuiet
import Derived.StillTailTactics
import Derived.Lib.Overlaps
import Derived.Deep.DeepCutAuto
import Derived.Deep.RegionWith
import Derived.Laws.RangeAny
set_option maxRecDepth 100000
set_option linter.unusedVariables false
set_option linter.unusedSimpArgs false
namespace Go.Proofs.Yteaanngagcflhaa
open Go.RowKit

namespace Cu
set_option maxHeartbeats 4000000 in
theorem refused_any (k : Int) (w : World) : Calls Try.prog 103 #[.int .i64 k] w fun e w' => e = .returned (.agg ⟨usedV k⟩) ∧ Below w.heap.size w w' := by
  have key : (k = 1 ∨ k = 2 ∨ k = 3 ∨ k = 5 ∨ k = 6 ∨ k = 7 ∨ k = 8 ∨ k = 9 ∨ k = 14 ∨ k = 15) ∨ (k ≠ 1 ∧ k ≠ 2 ∧ k ≠ 3 ∧ k ≠ 5 ∧ k ≠ 6 ∧ k ≠ 7 ∧ k ≠ 8 ∧ k ≠ 9 ∧ k ≠ 14 ∧ k ≠ 15) := by omega
  rcases key with key | ⟨n1, n2, n3, n5, n6, n7, n8, n9, n14, n15⟩
  · rcases key with rfl | rfl | rfl | rfl | rfl | rfl | rfl | rfl | rfl | rfl
    · go_enter Try.func103, Try.ntmps103
      go_upto_region 1 with (fail)
      (obtain ⟨W, hWW, hbW, hzW, f1W, qfa⟩ := box1 w #[.bool false, .bool false, .bool false, .bool false, .bool false] 139; rw [← hWW]; have qa0 : W.cell? ⟨w.heap.size, 0, none⟩ = some (.bool false) := f1W 0 _ rfl; have qa1 : W.cell? ⟨w.heap.size, 1, none⟩ = some (.bool false) := f1W 1 _ rfl; have qa2 : W.cell? ⟨w.heap.size, 2, none⟩ = some (.bool false) := f1W 2 _ rfl; have qa3 : W.cell? ⟨w.heap.size, 3, none⟩ = some (.bool false) := f1W 3 _ rfl; have qa4 : W.cell? ⟨w.heap.size, 4, none⟩ = some (.bool false) := f1W 4 _ rfl; clear hWW f1W)
      go_wp2_with fail
      have hr := setRun_is (vs := [.bool true, .bool false, .bool false, .bool true, .bool true]) (five qa0 qa1 qa2 qa3 qa4) (Nat.le_refl _)
      refine bodyPost_ret (results_cells rfl _ _ w.heap.size ⟨[.bool true, .bool false, .bool false, .bool true, .bool true]⟩ _ rfl hr rfl rfl rfl) rfl ?_
      exact ⟨rfl, setRun_below ([.bool true, .bool false, .bool false, .bool true, .bool true]) w.heap.size 0 hbW (Nat.le_refl _)⟩
    · go_enter Try.func103, Try.ntmps103
      go_upto_region 1 with (fail)
      (obtain ⟨W, hWW, hbW, hzW, f1W, qfa⟩ := box1 w #[.bool false, .bool false, .bool false, .bool false, .bool false] 139; rw [← hWW]; have qa0 : W.cell? ⟨w.heap.size, 0, none⟩ = some (.bool false) := f1W 0 _ rfl; have qa1 : W.cell? ⟨w.heap.size, 1, none⟩ = some (.bool false) := f1W 1 _ rfl; have qa2 : W.cell? ⟨w.heap.size, 2, none⟩ = some (.bool false) := f1W 2 _ rfl; have qa3 : W.cell? ⟨w.heap.size, 3, none⟩ = some (.bool false) := f1W 3 _ rfl; have qa4 : W.cell? ⟨w.heap.size, 4, none⟩ = some (.bool false) := f1W 4 _ rfl; clear hWW f1W)
      go_wp2_with fail
      have hr := setRun_is (vs := [.bool true, .bool false, .bool false, .bool false, .bool false]) (five qa0 qa1 qa2 qa3 qa4) (Nat.le_refl _)
      refine bodyPost_ret (results_cells rfl _ _ w.heap.size ⟨[.bool true, .bool false, .bool false, .bool false, .bool false]⟩ _ rfl hr rfl rfl rfl) rfl ?_
      exact ⟨rfl, setRun_below ([.bool true, .bool false, .bool false, .bool false, .bool false]) w.heap.size 0 hbW (Nat.le_refl _)⟩
    · go_enter Try.func103, Try.ntmps103
      go_upto_region 1 with (fail)
      (obtain ⟨W, hWW, hbW, hzW, f1W, qfa⟩ := box1 w #[.bool false, .bool false, .bool false, .bool false, .bool false] 139; rw [← hWW]; have qa0 : W.cell? ⟨w.heap.size, 0, none⟩ = some (.bool false) := f1W 0 _ rfl; have qa1 : W.cell? ⟨w.heap.size, 1, none⟩ = some (.bool false) := f1W 1 _ rfl; have qa2 : W.cell? ⟨w.heap.size, 2, none⟩ = some (.bool false) := f1W 2 _ rfl; have qa3 : W.cell? ⟨w.heap.size, 3, none⟩ = some (.bool false) := f1W 3 _ rfl; have qa4 : W.cell? ⟨w.heap.size, 4, none⟩ = some (.bool false) := f1W 4 _ rfl; clear hWW f1W)
      go_wp2_with fail
      have hr := setRun_is (vs := [.bool true, .bool true, .bool false, .bool true, .bool false]) (five qa0 qa1 qa2 qa3 qa4) (Nat.le_refl _)
      refine bodyPost_ret (results_cells rfl _ _ w.heap.size ⟨[.bool true, .bool true, .bool false, .bool true, .bool false]⟩ _ rfl hr rfl rfl rfl) rfl ?_
      exact ⟨rfl, setRun_below ([.bool true, .bool true, .bool false, .bool true, .bool false]) w.heap.size 0 hbW (Nat.le_refl _)⟩
    · go_enter Try.func103, Try.ntmps103
      go_upto_region 1 with (fail)
      (obtain ⟨W, hWW, hbW, hzW, f1W, qfa⟩ := box1 w #[.bool false, .bool false, .bool false, .bool false, .bool false] 139; rw [← hWW]; have qa0 : W.cell? ⟨w.heap.size, 0, none⟩ = some (.bool false) := f1W 0 _ rfl; have qa1 : W.cell? ⟨w.heap.size, 1, none⟩ = some (.bool false) := f1W 1 _ rfl; have qa2 : W.cell? ⟨w.heap.size, 2, none⟩ = some (.bool false) := f1W 2 _ rfl; have qa3 : W.cell? ⟨w.heap.size, 3, none⟩ = some (.bool false) := f1W 3 _ rfl; have qa4 : W.cell? ⟨w.heap.size, 4, none⟩ = some (.bool false) := f1W 4 _ rfl; clear hWW f1W)
      go_wp2_with fail
      have hr := setRun_is (vs := [.bool false, .bool true, .bool true, .bool false, .bool false]) (five qa0 qa1 qa2 qa3 qa4) (Nat.le_refl _)
      refine bodyPost_ret (results_cells rfl _ _ w.heap.size ⟨[.bool false, .bool true, .bool true, .bool false, .bool false]⟩ _ rfl hr rfl rfl rfl) rfl ?_
      exact ⟨rfl, setRun_below ([.bool false, .bool true, .bool true, .bool false, .bool false]) w.heap.size 0 hbW (Nat.le_refl _)⟩
    · go_enter Try.func103, Try.ntmps103
      go_upto_region 1 with (fail)
      (obtain ⟨W, hWW, hbW, hzW, f1W, qfa⟩ := box1 w #[.bool false, .bool false, .bool false, .bool false, .bool false] 139; rw [← hWW]; have qa0 : W.cell? ⟨w.heap.size, 0, none⟩ = some (.bool false) := f1W 0 _ rfl; have qa1 : W.cell? ⟨w.heap.size, 1, none⟩ = some (.bool false) := f1W 1 _ rfl; have qa2 : W.cell? ⟨w.heap.size, 2, none⟩ = some (.bool false) := f1W 2 _ rfl; have qa3 : W.cell? ⟨w.heap.size, 3, none⟩ = some (.bool false) := f1W 3 _ rfl; have qa4 : W.cell? ⟨w.heap.size, 4, none⟩ = some (.bool false) := f1W 4 _ rfl; clear hWW f1W)
      go_wp2_with fail
      have hr := setRun_is (vs := [.bool false, .bool true, .bool true, .bool false, .bool false]) (five qa0 qa1 qa2 qa3 qa4) (Nat.le_refl _)
      refine bodyPost_ret (results_cells rfl _ _ w.heap.size ⟨[.bool false, .bool true, .bool true, .bool false, .bool false]⟩ _ rfl hr rfl rfl rfl) rfl ?_
      exact ⟨rfl, setRun_below ([.bool false, .bool true, .bool true, .bool false, .bool false]) w.heap.size 0 hbW (Nat.le_refl _)⟩
    · go_enter Try.func103, Try.ntmps103
      go_upto_region 1 with (fail)
      (obtain ⟨W, hWW, hbW, hzW, f1W, qfa⟩ := box1 w #[.bool false, .bool false, .bool false, .bool false, .bool false] 139; rw [← hWW]; have qa0 : W.cell? ⟨w.heap.size, 0, none⟩ = some (.bool false) := f1W 0 _ rfl; have qa1 : W.cell? ⟨w.heap.size, 1, none⟩ = some (.bool false) := f1W 1 _ rfl; have qa2 : W.cell? ⟨w.heap.size, 2, none⟩ = some (.bool false) := f1W 2 _ rfl; have qa3 : W.cell? ⟨w.heap.size, 3, none⟩ = some (.bool false) := f1W 3 _ rfl; have qa4 : W.cell? ⟨w.heap.size, 4, none⟩ = some (.bool false) := f1W 4 _ rfl; clear hWW f1W)
      go_wp2_with fail
      have hr := setRun_is (vs := [.bool false, .bool true, .bool false, .bool true, .bool false]) (five qa0 qa1 qa2 qa3 qa4) (Nat.le_refl _)
      refine bodyPost_ret (results_cells rfl _ _ w.heap.size ⟨[.bool false, .bool true, .bool false, .bool true, .bool false]⟩ _ rfl hr rfl rfl rfl) rfl ?_
      exact ⟨rfl, setRun_below ([.bool false, .bool true, .bool false, .bool true, .bool false]) w.heap.size 0 hbW (Nat.le_refl _)⟩
    · go_enter Try.func103, Try.ntmps103
      go_upto_region 1 with (fail)
      (obtain ⟨W, hWW, hbW, hzW, f1W, qfa⟩ := box1 w #[.bool false, .bool false, .bool false, .bool false, .bool false] 139; rw [← hWW]; have qa0 : W.cell? ⟨w.heap.size, 0, none⟩ = some (.bool false) := f1W 0 _ rfl; have qa1 : W.cell? ⟨w.heap.size, 1, none⟩ = some (.bool false) := f1W 1 _ rfl; have qa2 : W.cell? ⟨w.heap.size, 2, none⟩ = some (.bool false) := f1W 2 _ rfl; have qa3 : W.cell? ⟨w.heap.size, 3, none⟩ = some (.bool false) := f1W 3 _ rfl; have qa4 : W.cell? ⟨w.heap.size, 4, none⟩ = some (.bool false) := f1W 4 _ rfl; clear hWW f1W)
      go_wp2_with fail
      have hr := setRun_is (vs := [.bool false, .bool true, .bool false, .bool true, .bool false]) (five qa0 qa1 qa2 qa3 qa4) (Nat.le_refl _)
      refine bodyPost_ret (results_cells rfl _ _ w.heap.size ⟨[.bool false, .bool true, .bool false, .bool true, .bool false]⟩ _ rfl hr rfl rfl rfl) rfl ?_
      exact ⟨rfl, setRun_below ([.bool false, .bool true, .bool false, .bool true, .bool false]) w.heap.size 0 hbW (Nat.le_refl _)⟩
    · go_enter Try.func103, Try.ntmps103
      go_upto_region 1 with (fail)
      (obtain ⟨W, hWW, hbW, hzW, f1W, qfa⟩ := box1 w #[.bool false, .bool false, .bool false, .bool false, .bool false] 139; rw [← hWW]; have qa0 : W.cell? ⟨w.heap.size, 0, none⟩ = some (.bool false) := f1W 0 _ rfl; have qa1 : W.cell? ⟨w.heap.size, 1, none⟩ = some (.bool false) := f1W 1 _ rfl; have qa2 : W.cell? ⟨w.heap.size, 2, none⟩ = some (.bool false) := f1W 2 _ rfl; have qa3 : W.cell? ⟨w.heap.size, 3, none⟩ = some (.bool false) := f1W 3 _ rfl; have qa4 : W.cell? ⟨w.heap.size, 4, none⟩ = some (.bool false) := f1W 4 _ rfl; clear hWW f1W)
      go_wp2_with fail
      have hr := setRun_is (vs := [.bool false, .bool true, .bool false, .bool true, .bool false]) (five qa0 qa1 qa2 qa3 qa4) (Nat.le_refl _)
      refine bodyPost_ret (results_cells rfl _ _ w.heap.size ⟨[.bool false, .bool true, .bool false, .bool true, .bool false]⟩ _ rfl hr rfl rfl rfl) rfl ?_
      exact ⟨rfl, setRun_below ([.bool false, .bool true, .bool false, .bool true, .bool false]) w.heap.size 0 hbW (Nat.le_refl _)⟩
    · go_enter Try.func103, Try.ntmps103
      go_upto_region 1 with (fail)
      (obtain ⟨W, hWW, hbW, hzW, f1W, qfa⟩ := box1 w #[.bool false, .bool false, .bool false, .bool false, .bool false] 139; rw [← hWW]; have qa0 : W.cell? ⟨w.heap.size, 0, none⟩ = some (.bool false) := f1W 0 _ rfl; have qa1 : W.cell? ⟨w.heap.size, 1, none⟩ = some (.bool false) := f1W 1 _ rfl; have qa2 : W.cell? ⟨w.heap.size, 2, none⟩ = some (.bool false) := f1W 2 _ rfl; have qa3 : W.cell? ⟨w.heap.size, 3, none⟩ = some (.bool false) := f1W 3 _ rfl; have qa4 : W.cell? ⟨w.heap.size, 4, none⟩ = some (.bool false) := f1W 4 _ rfl; clear hWW f1W)
      go_wp2_with fail
      have hr := setRun_is (vs := [.bool true, .bool false, .bool false, .bool false, .bool true]) (five qa0 qa1 qa2 qa3 qa4) (Nat.le_refl _)
      refine bodyPost_ret (results_cells rfl _ _ w.heap.size ⟨[.bool true, .bool false, .bool false, .bool false, .bool true]⟩ _ rfl hr rfl rfl rfl) rfl ?_
      exact ⟨rfl, setRun_below ([.bool true, .bool false, .bool false, .bool false, .bool true]) w.heap.size 0 hbW (Nat.le_refl _)⟩
    · go_enter Try.func103, Try.ntmps103
      go_upto_region 1 with (fail)
      (obtain ⟨W, hWW, hbW, hzW, f1W, qfa⟩ := box1 w #[.bool false, .bool false, .bool false, .bool false, .bool false] 139; rw [← hWW]; have qa0 : W.cell? ⟨w.heap.size, 0, none⟩ = some (.bool false) := f1W 0 _ rfl; have qa1 : W.cell? ⟨w.heap.size, 1, none⟩ = some (.bool false) := f1W 1 _ rfl; have qa2 : W.cell? ⟨w.heap.size, 2, none⟩ = some (.bool false) := f1W 2 _ rfl; have qa3 : W.cell? ⟨w.heap.size, 3, none⟩ = some (.bool false) := f1W 3 _ rfl; have qa4 : W.cell? ⟨w.heap.size, 4, none⟩ = some (.bool false) := f1W 4 _ rfl; clear hWW f1W)
      go_wp2_with fail
      have hr := setRun_is (vs := [.bool true, .bool false, .bool false, .bool false, .bool true]) (five qa0 qa1 qa2 qa3 qa4) (Nat.le_refl _)
      refine bodyPost_ret (results_cells rfl _ _ w.heap.size ⟨[.bool true, .bool false, .bool false, .bool false, .bool true]⟩ _ rfl hr rfl rfl rfl) rfl ?_
      exact ⟨rfl, setRun_below ([.bool true, .bool false, .bool false, .bool false, .bool true]) w.heap.size 0 hbW (Nat.le_refl _)⟩
  · have hv : usedV k = [.bool false, .bool true, .bool false, .bool false, .bool false] := by unfold usedV uA uS uN uM uV; simp [n1, n2, n3, n5, n6, n7, n8, n9, n14, n15]
    have b1 : (k == 1) = false := by simpa using n1
    have b2 : (k == 2) = false := by simpa using n2
    have b3 : (k == 3) = false := by simpa using n3
    have b5 : (k == 5) = false := by simpa using n5
    have b6 : (k == 6) = false := by simpa using n6
    have b7 : (k == 7) = false := by simpa using n7
    have b8 : (k == 8) = false := by simpa using n8
    have b9 : (k == 9) = false := by simpa using n9
    have b14 : (k == 14) = false := by simpa using n14
    have b15 : (k == 15) = false := by simpa using n15
    go_enter Try.func103, Try.ntmps103
    go_upto_region 1 with (fail)
    (obtain ⟨W, hWW, hbW, hzW, f1W, qfa⟩ := box1 w #[.bool false, .bool false, .bool false, .bool false, .bool false] 139; rw [← hWW]; have qa0 : W.cell? ⟨w.heap.size, 0, none⟩ = some (.bool false) := f1W 0 _ rfl; have qa1 : W.cell? ⟨w.heap.size, 1, none⟩ = some (.bool false) := f1W 1 _ rfl; have qa2 : W.cell? ⟨w.heap.size, 2, none⟩ = some (.bool false) := f1W 2 _ rfl; have qa3 : W.cell? ⟨w.heap.size, 3, none⟩ = some (.bool false) := f1W 3 _ rfl; have qa4 : W.cell? ⟨w.heap.size, 4, none⟩ = some (.bool false) := f1W 4 _ rfl; clear hWW f1W)
    go_wp2_with fail
    have hr := setRun_is (vs := [.bool false, .bool true, .bool false, .bool false, .bool false]) (five qa0 qa1 qa2 qa3 qa4) (Nat.le_refl _)
    refine bodyPost_ret (results_cells rfl _ _ w.heap.size ⟨[.bool false, .bool true, .bool false, .bool false, .bool false]⟩ _ rfl hr rfl rfl rfl) rfl ?_
    exact ⟨by rw [hv], setRun_below ([.bool false, .bool true, .bool false, .bool false, .bool false]) w.heap.size 0 hbW (Nat.le_refl _)⟩
theorem refid_any (n : Int) (w : World) : Calls Try.prog 118 #[.int .i64 n] w fun e w' => e = .returned (.bool (idB n)) ∧ w = w' := by
  go_enter Try.func118, Try.ntmps118
  go_wp2_with fail
  all_goals (go_ret; refine ⟨ret_bool ?_, rfl⟩; unfold idB; (rw [Bool.eq_iff_iff]; (try simp only [Bool.and_eq_true, Bool.or_eq_true, Bool.not_eq_true', decide_eq_true_eq, decide_eq_false_iff_not, Bool.false_eq_true, Bool.true_eq_false, false_iff, true_iff, iff_false, iff_true]); omega))
set_option maxHeartbeats 4000000 in
theorem refvalue_any (e : Ev) (w : World) : Calls Try.prog 121 #[e.v] w fun r w' => r = .returned (.bool (valB e.kind e.val)) ∧ Below w.heap.size w w' := by
  unfold Ev.v
  go_enter Try.func121, Try.ntmps121
  go_upto_region 1 with (fail)
  (obtain ⟨W, hWW, hbW, hzW, f1W, qfa⟩ := box1 w #[.int .i64 e.at_, .int .i64 e.kind, .int .i64 e.acc, .int .i64 e.sub, .string e.num, .string e.name, .int .i64 e.val] 36; rw [← hWW]; have qa0 : W.cell? ⟨w.heap.size, 0, none⟩ = some (.int .i64 e.at_) := f1W 0 _ rfl; have qa1 : W.cell? ⟨w.heap.size, 1, none⟩ = some (.int .i64 e.kind) := f1W 1 _ rfl; have qa2 : W.cell? ⟨w.heap.size, 2, none⟩ = some (.int .i64 e.acc) := f1W 2 _ rfl; have qa3 : W.cell? ⟨w.heap.size, 3, none⟩ = some (.int .i64 e.sub) := f1W 3 _ rfl; have qa4 : W.cell? ⟨w.heap.size, 4, none⟩ = some (.string e.num) := f1W 4 _ rfl; have qa5 : W.cell? ⟨w.heap.size, 5, none⟩ = some (.string e.name) := f1W 5 _ rfl; have qa6 : W.cell? ⟨w.heap.size, 6, none⟩ = some (.int .i64 e.val) := f1W 6 _ rfl; clear hWW f1W)
  by_cases h1 : e.kind = 1
  · have b1 : (e.kind == 1) = true := by simpa using h1
    replace h1 := Lib.hid h1
    go_wp2_with fail
    all_goals (go_ret; refine ⟨ret_bool ?_, hbW⟩; unfold valB; rw [if_pos h1.out]; (rw [Bool.eq_iff_iff]; (try simp only [Bool.and_eq_true, Bool.or_eq_true, Bool.not_eq_true', decide_eq_true_eq, decide_eq_false_iff_not, Bool.false_eq_true, Bool.true_eq_false, false_iff, true_iff, iff_false, iff_true]); omega))
  · have b1 : (e.kind == 1) = false := by simpa using h1
    replace h1 := Lib.hid h1
    by_cases h14 : e.kind = 14
    · have b14 : (e.kind == 14) = true := by simpa using h14
      replace h14 := Lib.hid h14
      go_wp2_with fail
      all_goals (go_ret; refine ⟨ret_bool ?_, hbW⟩; unfold valB; rw [if_neg h1.out, if_pos h14.out]; (rw [Bool.eq_iff_iff]; (try simp only [Bool.and_eq_true, Bool.or_eq_true, Bool.not_eq_true', decide_eq_true_eq, decide_eq_false_iff_not, Bool.false_eq_true, Bool.true_eq_false, false_iff, true_iff, iff_false, iff_true]); omega))
    · have b14 : (e.kind == 14) = false := by simpa using h14
      replace h14 := Lib.hid h14
      go_wp2_with fail
      all_goals (go_ret; refine ⟨ret_bool ?_, hbW⟩; unfold valB; rw [if_neg h1.out, if_neg h14.out]; (rw [Bool.eq_iff_iff]; (try simp only [Bool.and_eq_true, Bool.or_eq_true, Bool.not_eq_true', decide_eq_true_eq, decide_eq_false_iff_not, Bool.false_eq_true, Bool.true_eq_false, false_iff, true_iff, iff_false, iff_true]); omega))

set_option maxHeartbeats 4000000 in
theorem refname_any (s : ByteArray) (w : World) (hs : s.size ≤ maxLen) : Calls Try.prog 119 #[.string s] w fun e w' => e = .returned (.bool (nmB s.data.toList)) ∧ w = w' := by
  unfold maxLen at hs
  by_cases h0 : s.size = 0
  · have hb : ((s.size : Int) < 1) := by omega
    have HQ := Lib.hid (nm_empty h0)
    clear h0
    go_enter Try.func119, Try.ntmps119
    go_wp2_with fail
    go_ret
    exact ⟨ret_bool HQ.out.symm, rfl⟩
  have hb : ¬ ((s.size : Int) < 1) := by omega
  by_cases h24 : 24 < s.size
  · have h24i : (24 : Int) < (s.size : Int) := by omega
    have HQ := Lib.hid (nm_long h24)
    go_enter Try.func119, Try.ntmps119
    go_wp2_with fail
    go_ret
    exact ⟨ret_bool HQ.out.symm, rfl⟩
  have h24i : ¬ (24 : Int) < (s.size : Int) := by omega
  have h0p : 0 < s.size := by omega
  have h0i : (0 : Int) < (s.size : Int) := by omega
  by_cases hf : s[0].toNat < 97 ∨ 122 < s[0].toNat
  · have HQ := Lib.hid (nm_first h0p hf)
    clear h0
    go_enter Try.func119, Try.ntmps119
    rcases hf with hf | hf
    · go_wp2_with fail
      all_goals (first | (exfalso; omega) | (go_ret; exact ⟨ret_bool HQ.out.symm, rfl⟩))
    · go_wp2_with fail
      all_goals (first | (exfalso; omega) | (go_ret; exact ⟨ret_bool HQ.out.symm, rfl⟩))
  · have hf1 : 97 ≤ s[0].toNat ∧ s[0].toNat ≤ 122 := by omega
    have HF := Lib.hid hf1
    clear h0
    go_enter Try.func119, Try.ntmps119
    go_wp2_with fail
    all_goals first | (exfalso; omega) | skip
    clear hf hf1
    go_loop [3] (fun i => ∃ k : Nat, k ≤ s.size ∧ i = .int .i64 k ∧ ∀ j c, 1 ≤ j → j < k → s.data.toList[j]? = some c → nmC c = true) (fun i => s.size - (intOf i).toNat)
    case atStart => exact ⟨0, Nat.zero_le _, rfl, fun j c h1 h2 => absurd h2 (by omega)⟩
    case round =>
      obtain ⟨k, hk, rfl, ha⟩ := hrel
      have HA := Lib.hid ha
      clear ha
      by_cases hlt : k < s.size
      · by_cases h45 : s[k].toNat = 45
        · have b45 : ((s[k].toNat : Int) != 45) = false := by simp; omega
          go_wp2_with fail
          all_goals first
            | (go_ret
               refine ⟨ret_bool (nm_bad hlt ?_ h0p HF.out).symm, rfl⟩
               unfold nmC; rw [Bool.eq_iff_iff]; simp; omega)
            | (go_round
               case rel => exact ⟨k + 1, by omega, by go_num, nm_step hlt HA.out (by unfold nmC; rw [Bool.eq_iff_iff]; simp; omega)⟩
               case measure => simp [intOf]; omega)
        · have b45 : ((s[k].toNat : Int) != 45) = true := by simp; omega
          go_wp2_with fail
          all_goals first
            | (go_ret
               refine ⟨ret_bool (nm_bad hlt ?_ h0p HF.out).symm, rfl⟩
               unfold nmC; rw [Bool.eq_iff_iff]; simp; omega)
            | (go_round
               case rel => exact ⟨k + 1, by omega, by go_num, nm_step hlt HA.out (by unfold nmC; rw [Bool.eq_iff_iff]; simp; omega)⟩
               case measure => simp [intOf]; omega)
      · obtain rfl : s.size = k := by omega
        have HV := Lib.hid (nm_ok h0p (by omega) HF.out HA.out)
        go_wp2_with fail
        go_ret
        exact ⟨ret_bool HV.out.symm, rfl⟩
end Cu
end Go.Proofs.Yteaanngagcflhaa
