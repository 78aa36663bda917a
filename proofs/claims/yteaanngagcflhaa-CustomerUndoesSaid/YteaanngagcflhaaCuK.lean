/-
  Customers: world.check. No condition.
-/
import Derived.Test.YteaanngagcflhaaCuJ
import Derived.Test.YteaanngagcflhaaCuD
import Derived.BigQuiet
import Derived.StillTailTactics
import Derived.Lib.Overlaps
import Derived.Deep.DeepCutAuto
import Derived.Deep.RegionWith
import Derived.Laws.RangeAny
import Derived.Deep.RegionHeld
import Derived.Deep.RegionHeldLaw
set_option maxRecDepth 100000
set_option linter.unusedVariables false
set_option linter.unusedSimpArgs false
namespace Go.Proofs.Yteaanngagcflhaa
open Go.RowKit

namespace Cu
open Go.Maps

set_option maxHeartbeats 4000000 in
theorem changes_any (v : Sv) (kd : Int) (sb : Sb) (h1 : v.susp = sb.susp) (h2 : v.fam = sb.fam) (w : World) : Calls Try.prog 99 #[.agg #[.int .i64 v.id, .int .i64 v.acc, .int .i64 v.since, .string v.plan, .slice v.An v.nn v.cn, .slice v.Ap v.np v.cp, .bool v.susp, .bool v.fam], .int .i64 kd] w fun r w' => r = .returned (.int .i64 (chgE sb kd)) ∧ Below w.heap.size w w' := by
  have key : (kd = 10 ∨ kd = 11 ∨ kd = 12 ∨ kd = 13) ∨ (kd ≠ 10 ∧ kd ≠ 11 ∧ kd ≠ 12 ∧ kd ≠ 13) := by omega
  obtain ⟨id, acc, since, plan, An, nn, cn, Ap, np, cp, su, fa⟩ := v
  dsimp only at h1 h2 ⊢
  rcases key with (rfl | rfl | rfl | rfl) | ⟨n1, n2, n3, n4⟩
  · cases su
    · have HQ := Lib.hid (show chgE sb 10 = 0 by unfold chgE; rw [← h1, ← h2]; simp)
      clear h1 h2
      go_enter Try.func99, Try.ntmps99
      go_upto_region 1 with (fail)
      (obtain ⟨W, hWW, hbW, hzW, f1W, qfa⟩ := box1 w #[.int .i64 id, .int .i64 acc, .int .i64 since, .string plan, .slice An nn cn, .slice Ap np cp, .bool false, .bool fa] 51; rw [← hWW]; have qa0 : W.cell? ⟨w.heap.size, 0, none⟩ = some (.int .i64 id) := f1W 0 _ rfl; have qa1 : W.cell? ⟨w.heap.size, 1, none⟩ = some (.int .i64 acc) := f1W 1 _ rfl; have qa2 : W.cell? ⟨w.heap.size, 2, none⟩ = some (.int .i64 since) := f1W 2 _ rfl; have qa3 : W.cell? ⟨w.heap.size, 3, none⟩ = some (.string plan) := f1W 3 _ rfl; have qa4 : W.cell? ⟨w.heap.size, 4, none⟩ = some (.slice An nn cn) := f1W 4 _ rfl; have qa5 : W.cell? ⟨w.heap.size, 5, none⟩ = some (.slice Ap np cp) := f1W 5 _ rfl; have qa6 : W.cell? ⟨w.heap.size, 6, none⟩ = some (.bool false) := f1W 6 _ rfl; have qa7 : W.cell? ⟨w.heap.size, 7, none⟩ = some (.bool fa) := f1W 7 _ rfl; clear hWW f1W)
      go_wp2_with fail
      go_ret
      exact ⟨ret_int HQ.out.symm, hbW⟩
    · have HQ := Lib.hid (show chgE sb 10 = 22 by unfold chgE; rw [← h1, ← h2]; simp)
      clear h1 h2
      go_enter Try.func99, Try.ntmps99
      go_upto_region 1 with (fail)
      (obtain ⟨W, hWW, hbW, hzW, f1W, qfa⟩ := box1 w #[.int .i64 id, .int .i64 acc, .int .i64 since, .string plan, .slice An nn cn, .slice Ap np cp, .bool true, .bool fa] 51; rw [← hWW]; have qa0 : W.cell? ⟨w.heap.size, 0, none⟩ = some (.int .i64 id) := f1W 0 _ rfl; have qa1 : W.cell? ⟨w.heap.size, 1, none⟩ = some (.int .i64 acc) := f1W 1 _ rfl; have qa2 : W.cell? ⟨w.heap.size, 2, none⟩ = some (.int .i64 since) := f1W 2 _ rfl; have qa3 : W.cell? ⟨w.heap.size, 3, none⟩ = some (.string plan) := f1W 3 _ rfl; have qa4 : W.cell? ⟨w.heap.size, 4, none⟩ = some (.slice An nn cn) := f1W 4 _ rfl; have qa5 : W.cell? ⟨w.heap.size, 5, none⟩ = some (.slice Ap np cp) := f1W 5 _ rfl; have qa6 : W.cell? ⟨w.heap.size, 6, none⟩ = some (.bool true) := f1W 6 _ rfl; have qa7 : W.cell? ⟨w.heap.size, 7, none⟩ = some (.bool fa) := f1W 7 _ rfl; clear hWW f1W)
      go_wp2_with fail
      go_ret
      exact ⟨ret_int HQ.out.symm, hbW⟩
  · cases su
    · have HQ := Lib.hid (show chgE sb 11 = 22 by unfold chgE; rw [← h1, ← h2]; simp)
      clear h1 h2
      go_enter Try.func99, Try.ntmps99
      go_upto_region 1 with (fail)
      (obtain ⟨W, hWW, hbW, hzW, f1W, qfa⟩ := box1 w #[.int .i64 id, .int .i64 acc, .int .i64 since, .string plan, .slice An nn cn, .slice Ap np cp, .bool false, .bool fa] 51; rw [← hWW]; have qa0 : W.cell? ⟨w.heap.size, 0, none⟩ = some (.int .i64 id) := f1W 0 _ rfl; have qa1 : W.cell? ⟨w.heap.size, 1, none⟩ = some (.int .i64 acc) := f1W 1 _ rfl; have qa2 : W.cell? ⟨w.heap.size, 2, none⟩ = some (.int .i64 since) := f1W 2 _ rfl; have qa3 : W.cell? ⟨w.heap.size, 3, none⟩ = some (.string plan) := f1W 3 _ rfl; have qa4 : W.cell? ⟨w.heap.size, 4, none⟩ = some (.slice An nn cn) := f1W 4 _ rfl; have qa5 : W.cell? ⟨w.heap.size, 5, none⟩ = some (.slice Ap np cp) := f1W 5 _ rfl; have qa6 : W.cell? ⟨w.heap.size, 6, none⟩ = some (.bool false) := f1W 6 _ rfl; have qa7 : W.cell? ⟨w.heap.size, 7, none⟩ = some (.bool fa) := f1W 7 _ rfl; clear hWW f1W)
      go_wp2_with fail
      go_ret
      exact ⟨ret_int HQ.out.symm, hbW⟩
    · have HQ := Lib.hid (show chgE sb 11 = 0 by unfold chgE; rw [← h1, ← h2]; simp)
      clear h1 h2
      go_enter Try.func99, Try.ntmps99
      go_upto_region 1 with (fail)
      (obtain ⟨W, hWW, hbW, hzW, f1W, qfa⟩ := box1 w #[.int .i64 id, .int .i64 acc, .int .i64 since, .string plan, .slice An nn cn, .slice Ap np cp, .bool true, .bool fa] 51; rw [← hWW]; have qa0 : W.cell? ⟨w.heap.size, 0, none⟩ = some (.int .i64 id) := f1W 0 _ rfl; have qa1 : W.cell? ⟨w.heap.size, 1, none⟩ = some (.int .i64 acc) := f1W 1 _ rfl; have qa2 : W.cell? ⟨w.heap.size, 2, none⟩ = some (.int .i64 since) := f1W 2 _ rfl; have qa3 : W.cell? ⟨w.heap.size, 3, none⟩ = some (.string plan) := f1W 3 _ rfl; have qa4 : W.cell? ⟨w.heap.size, 4, none⟩ = some (.slice An nn cn) := f1W 4 _ rfl; have qa5 : W.cell? ⟨w.heap.size, 5, none⟩ = some (.slice Ap np cp) := f1W 5 _ rfl; have qa6 : W.cell? ⟨w.heap.size, 6, none⟩ = some (.bool true) := f1W 6 _ rfl; have qa7 : W.cell? ⟨w.heap.size, 7, none⟩ = some (.bool fa) := f1W 7 _ rfl; clear hWW f1W)
      go_wp2_with fail
      go_ret
      exact ⟨ret_int HQ.out.symm, hbW⟩
  · cases fa
    · have HQ := Lib.hid (show chgE sb 12 = 0 by unfold chgE; rw [← h1, ← h2]; simp)
      clear h1 h2
      go_enter Try.func99, Try.ntmps99
      go_upto_region 1 with (fail)
      (obtain ⟨W, hWW, hbW, hzW, f1W, qfa⟩ := box1 w #[.int .i64 id, .int .i64 acc, .int .i64 since, .string plan, .slice An nn cn, .slice Ap np cp, .bool su, .bool false] 51; rw [← hWW]; have qa0 : W.cell? ⟨w.heap.size, 0, none⟩ = some (.int .i64 id) := f1W 0 _ rfl; have qa1 : W.cell? ⟨w.heap.size, 1, none⟩ = some (.int .i64 acc) := f1W 1 _ rfl; have qa2 : W.cell? ⟨w.heap.size, 2, none⟩ = some (.int .i64 since) := f1W 2 _ rfl; have qa3 : W.cell? ⟨w.heap.size, 3, none⟩ = some (.string plan) := f1W 3 _ rfl; have qa4 : W.cell? ⟨w.heap.size, 4, none⟩ = some (.slice An nn cn) := f1W 4 _ rfl; have qa5 : W.cell? ⟨w.heap.size, 5, none⟩ = some (.slice Ap np cp) := f1W 5 _ rfl; have qa6 : W.cell? ⟨w.heap.size, 6, none⟩ = some (.bool su) := f1W 6 _ rfl; have qa7 : W.cell? ⟨w.heap.size, 7, none⟩ = some (.bool false) := f1W 7 _ rfl; clear hWW f1W)
      go_wp2_with fail
      go_ret
      exact ⟨ret_int HQ.out.symm, hbW⟩
    · have HQ := Lib.hid (show chgE sb 12 = 22 by unfold chgE; rw [← h1, ← h2]; simp)
      clear h1 h2
      go_enter Try.func99, Try.ntmps99
      go_upto_region 1 with (fail)
      (obtain ⟨W, hWW, hbW, hzW, f1W, qfa⟩ := box1 w #[.int .i64 id, .int .i64 acc, .int .i64 since, .string plan, .slice An nn cn, .slice Ap np cp, .bool su, .bool true] 51; rw [← hWW]; have qa0 : W.cell? ⟨w.heap.size, 0, none⟩ = some (.int .i64 id) := f1W 0 _ rfl; have qa1 : W.cell? ⟨w.heap.size, 1, none⟩ = some (.int .i64 acc) := f1W 1 _ rfl; have qa2 : W.cell? ⟨w.heap.size, 2, none⟩ = some (.int .i64 since) := f1W 2 _ rfl; have qa3 : W.cell? ⟨w.heap.size, 3, none⟩ = some (.string plan) := f1W 3 _ rfl; have qa4 : W.cell? ⟨w.heap.size, 4, none⟩ = some (.slice An nn cn) := f1W 4 _ rfl; have qa5 : W.cell? ⟨w.heap.size, 5, none⟩ = some (.slice Ap np cp) := f1W 5 _ rfl; have qa6 : W.cell? ⟨w.heap.size, 6, none⟩ = some (.bool su) := f1W 6 _ rfl; have qa7 : W.cell? ⟨w.heap.size, 7, none⟩ = some (.bool true) := f1W 7 _ rfl; clear hWW f1W)
      go_wp2_with fail
      go_ret
      exact ⟨ret_int HQ.out.symm, hbW⟩
  · cases fa
    · have HQ := Lib.hid (show chgE sb 13 = 22 by unfold chgE; rw [← h1, ← h2]; simp)
      clear h1 h2
      go_enter Try.func99, Try.ntmps99
      go_upto_region 1 with (fail)
      (obtain ⟨W, hWW, hbW, hzW, f1W, qfa⟩ := box1 w #[.int .i64 id, .int .i64 acc, .int .i64 since, .string plan, .slice An nn cn, .slice Ap np cp, .bool su, .bool false] 51; rw [← hWW]; have qa0 : W.cell? ⟨w.heap.size, 0, none⟩ = some (.int .i64 id) := f1W 0 _ rfl; have qa1 : W.cell? ⟨w.heap.size, 1, none⟩ = some (.int .i64 acc) := f1W 1 _ rfl; have qa2 : W.cell? ⟨w.heap.size, 2, none⟩ = some (.int .i64 since) := f1W 2 _ rfl; have qa3 : W.cell? ⟨w.heap.size, 3, none⟩ = some (.string plan) := f1W 3 _ rfl; have qa4 : W.cell? ⟨w.heap.size, 4, none⟩ = some (.slice An nn cn) := f1W 4 _ rfl; have qa5 : W.cell? ⟨w.heap.size, 5, none⟩ = some (.slice Ap np cp) := f1W 5 _ rfl; have qa6 : W.cell? ⟨w.heap.size, 6, none⟩ = some (.bool su) := f1W 6 _ rfl; have qa7 : W.cell? ⟨w.heap.size, 7, none⟩ = some (.bool false) := f1W 7 _ rfl; clear hWW f1W)
      go_wp2_with fail
      go_ret
      exact ⟨ret_int HQ.out.symm, hbW⟩
    · have HQ := Lib.hid (show chgE sb 13 = 0 by unfold chgE; rw [← h1, ← h2]; simp)
      clear h1 h2
      go_enter Try.func99, Try.ntmps99
      go_upto_region 1 with (fail)
      (obtain ⟨W, hWW, hbW, hzW, f1W, qfa⟩ := box1 w #[.int .i64 id, .int .i64 acc, .int .i64 since, .string plan, .slice An nn cn, .slice Ap np cp, .bool su, .bool true] 51; rw [← hWW]; have qa0 : W.cell? ⟨w.heap.size, 0, none⟩ = some (.int .i64 id) := f1W 0 _ rfl; have qa1 : W.cell? ⟨w.heap.size, 1, none⟩ = some (.int .i64 acc) := f1W 1 _ rfl; have qa2 : W.cell? ⟨w.heap.size, 2, none⟩ = some (.int .i64 since) := f1W 2 _ rfl; have qa3 : W.cell? ⟨w.heap.size, 3, none⟩ = some (.string plan) := f1W 3 _ rfl; have qa4 : W.cell? ⟨w.heap.size, 4, none⟩ = some (.slice An nn cn) := f1W 4 _ rfl; have qa5 : W.cell? ⟨w.heap.size, 5, none⟩ = some (.slice Ap np cp) := f1W 5 _ rfl; have qa6 : W.cell? ⟨w.heap.size, 6, none⟩ = some (.bool su) := f1W 6 _ rfl; have qa7 : W.cell? ⟨w.heap.size, 7, none⟩ = some (.bool true) := f1W 7 _ rfl; clear hWW f1W)
      go_wp2_with fail
      go_ret
      exact ⟨ret_int HQ.out.symm, hbW⟩
  · have HQ := Lib.hid (show chgE sb kd = 0 by unfold chgE; rw [if_neg (by omega)])
    have b10 : (kd == 10) = false := by simpa using n1
    have b11 : (kd == 11) = false := by simpa using n2
    have b12 : (kd == 12) = false := by simpa using n3
    have b13 : (kd == 13) = false := by simpa using n4
    clear h1 h2
    go_enter Try.func99, Try.ntmps99
    go_upto_region 1 with (fail)
    (obtain ⟨W, hWW, hbW, hzW, f1W, qfa⟩ := box1 w #[.int .i64 id, .int .i64 acc, .int .i64 since, .string plan, .slice An nn cn, .slice Ap np cp, .bool su, .bool fa] 51; rw [← hWW]; have qa0 : W.cell? ⟨w.heap.size, 0, none⟩ = some (.int .i64 id) := f1W 0 _ rfl; have qa1 : W.cell? ⟨w.heap.size, 1, none⟩ = some (.int .i64 acc) := f1W 1 _ rfl; have qa2 : W.cell? ⟨w.heap.size, 2, none⟩ = some (.int .i64 since) := f1W 2 _ rfl; have qa3 : W.cell? ⟨w.heap.size, 3, none⟩ = some (.string plan) := f1W 3 _ rfl; have qa4 : W.cell? ⟨w.heap.size, 4, none⟩ = some (.slice An nn cn) := f1W 4 _ rfl; have qa5 : W.cell? ⟨w.heap.size, 5, none⟩ = some (.slice Ap np cp) := f1W 5 _ rfl; have qa6 : W.cell? ⟨w.heap.size, 6, none⟩ = some (.bool su) := f1W 6 _ rfl; have qa7 : W.cell? ⟨w.heap.size, 7, none⟩ = some (.bool fa) := f1W 7 _ rfl; clear hWW f1W)
    go_wp2_with fail
    go_ret
    exact ⟨ret_int HQ.out.symm, hbW⟩
set_option maxHeartbeats 16000000 in
theorem check_1 (at_ acc sub val : Int) (num name : ByteArray) (B M NN : Nat) (k : Bl) (s : St) (w : World) (h : Rep w B M NN k s) (wa : (Lit.int .i64 acc).wf = true) (ws : (Lit.int .i64 sub).wf = true) (hnm : num.size ≤ maxLen) :
    Calls Try.prog 70 #[.pointer (some ⟨k.p, 0, none⟩), .agg #[.int .i64 at_, .int .i64 1, .int .i64 acc, .int .i64 sub, .string num, .string name, .int .i64 val]] w fun r w' => r = .returned (.int .i64 (checkP s ⟨at_, 1, acc, sub, num, name, val⟩)) ∧ Below w.heap.size w w' := by
  have HR := Lib.hid h
  clear h
  go_enter Try.func70, Try.ntmps70
  go_upto_region 1 with (fail)
  (obtain ⟨W, hWW, hbW, hzW, f1W, qfa⟩ := box1 w #[.int .i64 at_, .int .i64 1, .int .i64 acc, .int .i64 sub, .string num, .string name, .int .i64 val] 36; rw [← hWW]; have qa0 : W.cell? ⟨w.heap.size, 0, none⟩ = some (.int .i64 at_) := f1W 0 _ rfl; have qa1 : W.cell? ⟨w.heap.size, 1, none⟩ = some (.int .i64 1) := f1W 1 _ rfl; have qa2 : W.cell? ⟨w.heap.size, 2, none⟩ = some (.int .i64 acc) := f1W 2 _ rfl; have qa3 : W.cell? ⟨w.heap.size, 3, none⟩ = some (.int .i64 sub) := f1W 3 _ rfl; have qa4 : W.cell? ⟨w.heap.size, 4, none⟩ = some (.string num) := f1W 4 _ rfl; have qa5 : W.cell? ⟨w.heap.size, 5, none⟩ = some (.string name) := f1W 5 _ rfl; have qa6 : W.cell? ⟨w.heap.size, 6, none⟩ = some (.int .i64 val) := f1W 6 _ rfl; clear hWW f1W)
  have hT := hbW
  have hpw : k.p < w.heap.size := Nat.lt_of_lt_of_le HR.out.hi.1 HR.out.m
  have hpW : k.p < W.heap.size := Nat.lt_trans hpw hzW
  have hgW : w.heap.size < W.heap.size := hzW
  replace HR := Lib.hid (HR.out.below hbW)
  clear hbW hzW qfa
  have c0 := HR.out.c0
  obtain ⟨fa, hMA, hFA⟩ := HR.out.acc
  have HMA := Lib.hid hMA
  have hfx := hFA acc
  clear hMA hFA
  go_upto_region 3 with (fail)
  cases hacc : s.acc acc
  case none =>
    rw [hacc] at hfx
    have HQ := Lib.hid (show checkP s ⟨at_, 1, acc, sub, num, name, val⟩ = 0 by unfold checkP; simp [hacc])
    clear hacc
    refine wp_region_held_drew (S := fun w' => Below W.heap.size W w') (by kernel_rfl) ((Below.refl _ _).drew) (fun hHeld => ?_)
    refine tk 0 (v := ?_) ?_ ?_
    rotate_left
    · intro w' hSw; go_simp; (try with_reducible rfl)
    refine tk 1 (v := ?_) ?_ ?_
    rotate_left
    · intro w' hSw; go_simp; (try with_reducible rfl)
    refine tk 2 (v := ?_) ?_ ?_
    rotate_left
    · intro w' hSw; go_simp; (try with_reducible rfl)
    refine tk 3 (v := ?_) ?_ ?_
    rotate_left
    · intro w' hSw; have z0 := (hSw.cell (p := ⟨k.p, 0, none⟩) hpW).trans c0; have z2 := (hSw.cell (p := ⟨w.heap.size, 2, none⟩) hgW).trans qa2; go_simp; (try with_reducible rfl)
    refine tk 4 (v := ?_) ?_ ?_
    rotate_left
    · intro w' hSw; go_simp; (try with_reducible rfl)
    refine tk 5 (v := ?_) ?_ ?_
    rotate_left
    · intro w' hSw; have z0 := (hSw.cell (p := ⟨k.p, 0, none⟩) hpW).trans c0; have z2 := (hSw.cell (p := ⟨w.heap.size, 2, none⟩) hgW).trans qa2; go_simp; (try with_reducible rfl)
    refine tk 6 (v := ?_) ?_ ?_
    rotate_left
    · intro w' hSw; have hl := (HMA.out.below hSw).run_ok keyI Try.underlying123 (zeroA _) (kI wa) (v := .agg #[.int .i64 0, .int .i64 0, .int .i64 0, .bool false, .bool false, .slice none 0 0]) (c := false) (by rw [hfx]; rfl) (by rw [hfx]; rfl); go_simp; (try with_reducible rfl)
    refine tk 7 (v := ?_) ?_ ?_
    rotate_left
    · intro w' hSw; go_simp; (try with_reducible rfl)
    refine tk 8 (v := ?_) ?_ ?_
    rotate_left
    · intro w' hSw; go_simp; (try with_reducible rfl)
    refine tk 9 (v := ?_) ?_ ?_
    rotate_left
    · intro w' hSw; go_simp; (try with_reducible rfl)
    (try simp only [List.getElem_toArray, List.getElem_cons_succ, List.getElem_cons_zero, Act.put, List.setIfInBounds_toArray, List.set_cons_zero, List.set_cons_succ])
    refine wpAnyH_ready (rs := [10]) (by kernel_rfl) (by simp) ?_
    refine AllReadyH.cons rfl (fun K' hK => ?_) AllReadyH.nil
    go_simp
    refine hK.out _ _ (by (repeat (first | exact hHeld | exact Below.refl _ _ | (refine Below.alloc ?_ (by (try simp) <;> omega) _) | (refine Below.setCell ?_ (by (try simp) <;> omega) _) | refine Below.drew ?_ | refine below_drewN ?_ _))) (fun hHeld => ?_)
    clear hK K'
    (try simp only [List.getElem_toArray, List.getElem_cons_succ, List.getElem_cons_zero, Act.put, List.setIfInBounds_toArray, List.set_cons_zero, List.set_cons_succ])
    refine wpAnyH_ready (rs := [11]) (by kernel_rfl) (by simp) ?_
    refine AllReadyH.cons rfl (fun K' hK => ?_) AllReadyH.nil
    go_simp
    refine hK.out _ _ (by (repeat (first | exact hHeld | exact Below.refl _ _ | (refine Below.alloc ?_ (by (try simp) <;> omega) _) | (refine Below.setCell ?_ (by (try simp) <;> omega) _) | refine Below.drew ?_ | refine below_drewN ?_ _))) (fun hHeld => ?_)
    clear hK K'
    (try simp only [List.getElem_toArray, List.getElem_cons_succ, List.getElem_cons_zero, Act.put, List.setIfInBounds_toArray, List.set_cons_zero, List.set_cons_succ])
    refine tk 12 (v := ?_) ?_ ?_
    rotate_left
    · intro w' hSw; go_simp; (try with_reducible rfl)
    (try simp only [List.getElem_toArray, List.getElem_cons_succ, List.getElem_cons_zero, Act.put, List.setIfInBounds_toArray, List.set_cons_zero, List.set_cons_succ])
    refine wpAnyH_done (by kernel_rfl) ?_ _
    (try simp only [List.getElem_toArray, List.getElem_cons_succ, List.getElem_cons_zero, Act.put, List.setIfInBounds_toArray, List.set_cons_zero, List.set_cons_succ])
    have hT2 := hT.trans (hHeld.mono hT.size)
    clear hHeld
    go_wp2_with fail
    go_ret
    exact ⟨ret_int HQ.out.symm, hT2⟩
  case some =>
    rename_i ac
    rw [hacc] at hfx
    have HQ := Lib.hid (show checkP s ⟨at_, 1, acc, sub, num, name, val⟩ = 10 by unfold checkP; simp [hacc])
    clear hacc
    refine wp_region_held_drew (S := fun w' => Below W.heap.size W w') (by kernel_rfl) ((Below.refl _ _).drew) (fun hHeld => ?_)
    refine tk 0 (v := ?_) ?_ ?_
    rotate_left
    · intro w' hSw; go_simp; (try with_reducible rfl)
    refine tk 1 (v := ?_) ?_ ?_
    rotate_left
    · intro w' hSw; go_simp; (try with_reducible rfl)
    refine tk 2 (v := ?_) ?_ ?_
    rotate_left
    · intro w' hSw; go_simp; (try with_reducible rfl)
    refine tk 3 (v := ?_) ?_ ?_
    rotate_left
    · intro w' hSw; have z0 := (hSw.cell (p := ⟨k.p, 0, none⟩) hpW).trans c0; have z2 := (hSw.cell (p := ⟨w.heap.size, 2, none⟩) hgW).trans qa2; go_simp; (try with_reducible rfl)
    refine tk 4 (v := ?_) ?_ ?_
    rotate_left
    · intro w' hSw; go_simp; (try with_reducible rfl)
    refine tk 5 (v := ?_) ?_ ?_
    rotate_left
    · intro w' hSw; have z0 := (hSw.cell (p := ⟨k.p, 0, none⟩) hpW).trans c0; have z2 := (hSw.cell (p := ⟨w.heap.size, 2, none⟩) hgW).trans qa2; go_simp; (try with_reducible rfl)
    refine tk 6 (v := ?_) ?_ ?_
    rotate_left
    · intro w' hSw; have hl := (HMA.out.below hSw).run_ok keyI Try.underlying123 (zeroA _) (kI wa) (v := .agg #[.int .i64 ac.id, .int .i64 ac.since, .int .i64 ac.anchor, .bool ac.prepaid, .bool ac.closed, .slice none 0 0]) (c := true) (by rw [hfx]; rfl) (by rw [hfx]; rfl); go_simp; (try with_reducible rfl)
    refine tk 7 (v := ?_) ?_ ?_
    rotate_left
    · intro w' hSw; go_simp; (try with_reducible rfl)
    refine tk 8 (v := ?_) ?_ ?_
    rotate_left
    · intro w' hSw; go_simp; (try with_reducible rfl)
    refine tk 9 (v := ?_) ?_ ?_
    rotate_left
    · intro w' hSw; go_simp; (try with_reducible rfl)
    (try simp only [List.getElem_toArray, List.getElem_cons_succ, List.getElem_cons_zero, Act.put, List.setIfInBounds_toArray, List.set_cons_zero, List.set_cons_succ])
    refine wpAnyH_ready (rs := [10]) (by kernel_rfl) (by simp) ?_
    refine AllReadyH.cons rfl (fun K' hK => ?_) AllReadyH.nil
    go_simp
    refine hK.out _ _ (by (repeat (first | exact hHeld | exact Below.refl _ _ | (refine Below.alloc ?_ (by (try simp) <;> omega) _) | (refine Below.setCell ?_ (by (try simp) <;> omega) _) | refine Below.drew ?_ | refine below_drewN ?_ _))) (fun hHeld => ?_)
    clear hK K'
    (try simp only [List.getElem_toArray, List.getElem_cons_succ, List.getElem_cons_zero, Act.put, List.setIfInBounds_toArray, List.set_cons_zero, List.set_cons_succ])
    refine wpAnyH_ready (rs := [11]) (by kernel_rfl) (by simp) ?_
    refine AllReadyH.cons rfl (fun K' hK => ?_) AllReadyH.nil
    go_simp
    refine hK.out _ _ (by (repeat (first | exact hHeld | exact Below.refl _ _ | (refine Below.alloc ?_ (by (try simp) <;> omega) _) | (refine Below.setCell ?_ (by (try simp) <;> omega) _) | refine Below.drew ?_ | refine below_drewN ?_ _))) (fun hHeld => ?_)
    clear hK K'
    (try simp only [List.getElem_toArray, List.getElem_cons_succ, List.getElem_cons_zero, Act.put, List.setIfInBounds_toArray, List.set_cons_zero, List.set_cons_succ])
    refine tk 12 (v := ?_) ?_ ?_
    rotate_left
    · intro w' hSw; go_simp; (try with_reducible rfl)
    (try simp only [List.getElem_toArray, List.getElem_cons_succ, List.getElem_cons_zero, Act.put, List.setIfInBounds_toArray, List.set_cons_zero, List.set_cons_succ])
    refine wpAnyH_done (by kernel_rfl) ?_ _
    (try simp only [List.getElem_toArray, List.getElem_cons_succ, List.getElem_cons_zero, Act.put, List.setIfInBounds_toArray, List.set_cons_zero, List.set_cons_succ])
    have hT2 := hT.trans (hHeld.mono hT.size)
    clear hHeld
    go_wp2_with fail
    go_ret
    exact ⟨ret_int HQ.out.symm, hT2⟩
set_option maxHeartbeats 16000000 in
theorem check_2 (at_ acc sub val : Int) (num name : ByteArray) (B M NN : Nat) (k : Bl) (s : St) (w : World) (h : Rep w B M NN k s) (wa : (Lit.int .i64 acc).wf = true) (ws : (Lit.int .i64 sub).wf = true) (hnm : num.size ≤ maxLen) :
    Calls Try.prog 70 #[.pointer (some ⟨k.p, 0, none⟩), .agg #[.int .i64 at_, .int .i64 2, .int .i64 acc, .int .i64 sub, .string num, .string name, .int .i64 val]] w fun r w' => r = .returned (.int .i64 (checkP s ⟨at_, 2, acc, sub, num, name, val⟩)) ∧ Below w.heap.size w w' := by
  have HR := Lib.hid h
  clear h
  go_enter Try.func70, Try.ntmps70
  go_upto_region 1 with (fail)
  (obtain ⟨W, hWW, hbW, hzW, f1W, qfa⟩ := box1 w #[.int .i64 at_, .int .i64 2, .int .i64 acc, .int .i64 sub, .string num, .string name, .int .i64 val] 36; rw [← hWW]; have qa0 : W.cell? ⟨w.heap.size, 0, none⟩ = some (.int .i64 at_) := f1W 0 _ rfl; have qa1 : W.cell? ⟨w.heap.size, 1, none⟩ = some (.int .i64 2) := f1W 1 _ rfl; have qa2 : W.cell? ⟨w.heap.size, 2, none⟩ = some (.int .i64 acc) := f1W 2 _ rfl; have qa3 : W.cell? ⟨w.heap.size, 3, none⟩ = some (.int .i64 sub) := f1W 3 _ rfl; have qa4 : W.cell? ⟨w.heap.size, 4, none⟩ = some (.string num) := f1W 4 _ rfl; have qa5 : W.cell? ⟨w.heap.size, 5, none⟩ = some (.string name) := f1W 5 _ rfl; have qa6 : W.cell? ⟨w.heap.size, 6, none⟩ = some (.int .i64 val) := f1W 6 _ rfl; clear hWW f1W)
  have hT := hbW
  have hpw : k.p < w.heap.size := Nat.lt_of_lt_of_le HR.out.hi.1 HR.out.m
  have hpW : k.p < W.heap.size := Nat.lt_trans hpw hzW
  have hgW : w.heap.size < W.heap.size := hzW
  replace HR := Lib.hid (HR.out.below hbW)
  clear hbW hzW qfa
  have hc := account_2 at_ acc sub val num name B M NN k s W HR.out wa ws
  have HQ := Lib.hid (show checkP s ⟨at_, 2, acc, sub, num, name, val⟩ = accP s ⟨at_, 2, acc, sub, num, name, val⟩ from rfl)
  have HC := Lib.hid hc
  clear hc
  go_wp2_with fail
  refine HC.out.mono ?_
  rintro r w2 ⟨rfl, hb2⟩
  replace hT := hT.trans (hb2.mono hT.size)
  clear hb2
  go_wp2_with fail
  go_ret
  exact ⟨ret_int HQ.out.symm, hT⟩
set_option maxHeartbeats 16000000 in
theorem check_3 (at_ acc sub val : Int) (num name : ByteArray) (B M NN : Nat) (k : Bl) (s : St) (w : World) (h : Rep w B M NN k s) (wa : (Lit.int .i64 acc).wf = true) (ws : (Lit.int .i64 sub).wf = true) (hnm : num.size ≤ maxLen) :
    Calls Try.prog 70 #[.pointer (some ⟨k.p, 0, none⟩), .agg #[.int .i64 at_, .int .i64 3, .int .i64 acc, .int .i64 sub, .string num, .string name, .int .i64 val]] w fun r w' => r = .returned (.int .i64 (checkP s ⟨at_, 3, acc, sub, num, name, val⟩)) ∧ Below w.heap.size w w' := by
  have HR := Lib.hid h
  clear h
  go_enter Try.func70, Try.ntmps70
  go_upto_region 1 with (fail)
  (obtain ⟨W, hWW, hbW, hzW, f1W, qfa⟩ := box1 w #[.int .i64 at_, .int .i64 3, .int .i64 acc, .int .i64 sub, .string num, .string name, .int .i64 val] 36; rw [← hWW]; have qa0 : W.cell? ⟨w.heap.size, 0, none⟩ = some (.int .i64 at_) := f1W 0 _ rfl; have qa1 : W.cell? ⟨w.heap.size, 1, none⟩ = some (.int .i64 3) := f1W 1 _ rfl; have qa2 : W.cell? ⟨w.heap.size, 2, none⟩ = some (.int .i64 acc) := f1W 2 _ rfl; have qa3 : W.cell? ⟨w.heap.size, 3, none⟩ = some (.int .i64 sub) := f1W 3 _ rfl; have qa4 : W.cell? ⟨w.heap.size, 4, none⟩ = some (.string num) := f1W 4 _ rfl; have qa5 : W.cell? ⟨w.heap.size, 5, none⟩ = some (.string name) := f1W 5 _ rfl; have qa6 : W.cell? ⟨w.heap.size, 6, none⟩ = some (.int .i64 val) := f1W 6 _ rfl; clear hWW f1W)
  have hT := hbW
  have hpw : k.p < w.heap.size := Nat.lt_of_lt_of_le HR.out.hi.1 HR.out.m
  have hpW : k.p < W.heap.size := Nat.lt_trans hpw hzW
  have hgW : w.heap.size < W.heap.size := hzW
  replace HR := Lib.hid (HR.out.below hbW)
  clear hbW hzW qfa
  have hc := account_3 at_ acc sub val num name B M NN k s W HR.out wa ws
  have HQ := Lib.hid (show checkP s ⟨at_, 3, acc, sub, num, name, val⟩ = accP s ⟨at_, 3, acc, sub, num, name, val⟩ from rfl)
  have HC := Lib.hid hc
  clear hc
  go_wp2_with fail
  refine HC.out.mono ?_
  rintro r w2 ⟨rfl, hb2⟩
  replace hT := hT.trans (hb2.mono hT.size)
  clear hb2
  go_wp2_with fail
  go_ret
  exact ⟨ret_int HQ.out.symm, hT⟩
set_option maxHeartbeats 16000000 in
theorem check_14 (at_ acc sub val : Int) (num name : ByteArray) (B M NN : Nat) (k : Bl) (s : St) (w : World) (h : Rep w B M NN k s) (wa : (Lit.int .i64 acc).wf = true) (ws : (Lit.int .i64 sub).wf = true) (hnm : num.size ≤ maxLen) :
    Calls Try.prog 70 #[.pointer (some ⟨k.p, 0, none⟩), .agg #[.int .i64 at_, .int .i64 14, .int .i64 acc, .int .i64 sub, .string num, .string name, .int .i64 val]] w fun r w' => r = .returned (.int .i64 (checkP s ⟨at_, 14, acc, sub, num, name, val⟩)) ∧ Below w.heap.size w w' := by
  have HR := Lib.hid h
  clear h
  go_enter Try.func70, Try.ntmps70
  go_upto_region 1 with (fail)
  (obtain ⟨W, hWW, hbW, hzW, f1W, qfa⟩ := box1 w #[.int .i64 at_, .int .i64 14, .int .i64 acc, .int .i64 sub, .string num, .string name, .int .i64 val] 36; rw [← hWW]; have qa0 : W.cell? ⟨w.heap.size, 0, none⟩ = some (.int .i64 at_) := f1W 0 _ rfl; have qa1 : W.cell? ⟨w.heap.size, 1, none⟩ = some (.int .i64 14) := f1W 1 _ rfl; have qa2 : W.cell? ⟨w.heap.size, 2, none⟩ = some (.int .i64 acc) := f1W 2 _ rfl; have qa3 : W.cell? ⟨w.heap.size, 3, none⟩ = some (.int .i64 sub) := f1W 3 _ rfl; have qa4 : W.cell? ⟨w.heap.size, 4, none⟩ = some (.string num) := f1W 4 _ rfl; have qa5 : W.cell? ⟨w.heap.size, 5, none⟩ = some (.string name) := f1W 5 _ rfl; have qa6 : W.cell? ⟨w.heap.size, 6, none⟩ = some (.int .i64 val) := f1W 6 _ rfl; clear hWW f1W)
  have hT := hbW
  have hpw : k.p < w.heap.size := Nat.lt_of_lt_of_le HR.out.hi.1 HR.out.m
  have hpW : k.p < W.heap.size := Nat.lt_trans hpw hzW
  have hgW : w.heap.size < W.heap.size := hzW
  replace HR := Lib.hid (HR.out.below hbW)
  clear hbW hzW qfa
  have hc := account_14 at_ acc sub val num name B M NN k s W HR.out wa ws
  have HQ := Lib.hid (show checkP s ⟨at_, 14, acc, sub, num, name, val⟩ = accP s ⟨at_, 14, acc, sub, num, name, val⟩ from rfl)
  have HC := Lib.hid hc
  clear hc
  go_wp2_with fail
  refine HC.out.mono ?_
  rintro r w2 ⟨rfl, hb2⟩
  replace hT := hT.trans (hb2.mono hT.size)
  clear hb2
  go_wp2_with fail
  go_ret
  exact ⟨ret_int HQ.out.symm, hT⟩
set_option maxHeartbeats 16000000 in
theorem check_15 (at_ acc sub val : Int) (num name : ByteArray) (B M NN : Nat) (k : Bl) (s : St) (w : World) (h : Rep w B M NN k s) (wa : (Lit.int .i64 acc).wf = true) (ws : (Lit.int .i64 sub).wf = true) (hnm : num.size ≤ maxLen) :
    Calls Try.prog 70 #[.pointer (some ⟨k.p, 0, none⟩), .agg #[.int .i64 at_, .int .i64 15, .int .i64 acc, .int .i64 sub, .string num, .string name, .int .i64 val]] w fun r w' => r = .returned (.int .i64 (checkP s ⟨at_, 15, acc, sub, num, name, val⟩)) ∧ Below w.heap.size w w' := by
  have HR := Lib.hid h
  clear h
  go_enter Try.func70, Try.ntmps70
  go_upto_region 1 with (fail)
  (obtain ⟨W, hWW, hbW, hzW, f1W, qfa⟩ := box1 w #[.int .i64 at_, .int .i64 15, .int .i64 acc, .int .i64 sub, .string num, .string name, .int .i64 val] 36; rw [← hWW]; have qa0 : W.cell? ⟨w.heap.size, 0, none⟩ = some (.int .i64 at_) := f1W 0 _ rfl; have qa1 : W.cell? ⟨w.heap.size, 1, none⟩ = some (.int .i64 15) := f1W 1 _ rfl; have qa2 : W.cell? ⟨w.heap.size, 2, none⟩ = some (.int .i64 acc) := f1W 2 _ rfl; have qa3 : W.cell? ⟨w.heap.size, 3, none⟩ = some (.int .i64 sub) := f1W 3 _ rfl; have qa4 : W.cell? ⟨w.heap.size, 4, none⟩ = some (.string num) := f1W 4 _ rfl; have qa5 : W.cell? ⟨w.heap.size, 5, none⟩ = some (.string name) := f1W 5 _ rfl; have qa6 : W.cell? ⟨w.heap.size, 6, none⟩ = some (.int .i64 val) := f1W 6 _ rfl; clear hWW f1W)
  have hT := hbW
  have hpw : k.p < w.heap.size := Nat.lt_of_lt_of_le HR.out.hi.1 HR.out.m
  have hpW : k.p < W.heap.size := Nat.lt_trans hpw hzW
  have hgW : w.heap.size < W.heap.size := hzW
  replace HR := Lib.hid (HR.out.below hbW)
  clear hbW hzW qfa
  have hc := account_15 at_ acc sub val num name B M NN k s W HR.out wa ws
  have HQ := Lib.hid (show checkP s ⟨at_, 15, acc, sub, num, name, val⟩ = accP s ⟨at_, 15, acc, sub, num, name, val⟩ from rfl)
  have HC := Lib.hid hc
  clear hc
  go_wp2_with fail
  refine HC.out.mono ?_
  rintro r w2 ⟨rfl, hb2⟩
  replace hT := hT.trans (hb2.mono hT.size)
  clear hb2
  go_wp2_with fail
  go_ret
  exact ⟨ret_int HQ.out.symm, hT⟩
set_option maxHeartbeats 64000000 in
theorem check_sub (at_ K acc sub val : Int) (num name : ByteArray) (B M NN : Nat) (k : Bl) (s : St) (w : World) (h : Rep w B M NN k s) (wa : (Lit.int .i64 acc).wf = true) (ws : (Lit.int .i64 sub).wf = true) (hnm : num.size ≤ maxLen) (h4 : 4 ≤ K) (h13 : K ≤ 13) :
    Calls Try.prog 70 #[.pointer (some ⟨k.p, 0, none⟩), .agg #[.int .i64 at_, .int .i64 K, .int .i64 acc, .int .i64 sub, .string num, .string name, .int .i64 val]] w fun r w' => r = .returned (.int .i64 (checkP s ⟨at_, K, acc, sub, num, name, val⟩)) ∧ Below w.heap.size w w' := by
  have b1 : (K == 1) = false := by rw [beq_eq_false_iff_ne]; omega
  have b2 : (K == 2) = false := by rw [beq_eq_false_iff_ne]; omega
  have b3 : (K == 3) = false := by rw [beq_eq_false_iff_ne]; omega
  have b14 : (K == 14) = false := by rw [beq_eq_false_iff_ne]; omega
  have b15 : (K == 15) = false := by rw [beq_eq_false_iff_ne]; omega
  have HK := Lib.hid (show 4 ≤ K ∧ K ≤ 13 from ⟨h4, h13⟩)
  clear h4 h13
  have HR := Lib.hid h
  clear h
  go_enter Try.func70, Try.ntmps70
  go_upto_region 1 with (fail)
  (obtain ⟨W, hWW, hbW, hzW, f1W, qfa⟩ := box1 w #[.int .i64 at_, .int .i64 K, .int .i64 acc, .int .i64 sub, .string num, .string name, .int .i64 val] 36; rw [← hWW]; have qa0 : W.cell? ⟨w.heap.size, 0, none⟩ = some (.int .i64 at_) := f1W 0 _ rfl; have qa1 : W.cell? ⟨w.heap.size, 1, none⟩ = some (.int .i64 K) := f1W 1 _ rfl; have qa2 : W.cell? ⟨w.heap.size, 2, none⟩ = some (.int .i64 acc) := f1W 2 _ rfl; have qa3 : W.cell? ⟨w.heap.size, 3, none⟩ = some (.int .i64 sub) := f1W 3 _ rfl; have qa4 : W.cell? ⟨w.heap.size, 4, none⟩ = some (.string num) := f1W 4 _ rfl; have qa5 : W.cell? ⟨w.heap.size, 5, none⟩ = some (.string name) := f1W 5 _ rfl; have qa6 : W.cell? ⟨w.heap.size, 6, none⟩ = some (.int .i64 val) := f1W 6 _ rfl; clear hWW f1W)
  have hT := hbW
  have hpw : k.p < w.heap.size := Nat.lt_of_lt_of_le HR.out.hi.1 HR.out.m
  have hpW : k.p < W.heap.size := Nat.lt_trans hpw hzW
  have hgW : w.heap.size < W.heap.size := hzW
  replace HR := Lib.hid (HR.out.below hbW)
  clear hbW hzW qfa
  have c1 := HR.out.c1
  obtain ⟨fs, hMS, hFS⟩ := HR.out.sub
  have HMS := Lib.hid hMS
  have hfx := hFS sub
  clear hMS hFS
  go_upto_region 12 with (fail)
  cases hsub : s.sub sub
  case none =>
    rw [hsub] at hfx
    dsimp only at hfx
    refine wp_region_held_drew (S := fun w' => Below W.heap.size W w') (by kernel_rfl) ((Below.refl _ _).drew) (fun hHeld => ?_)
    refine tk 0 (v := ?_) ?_ ?_
    rotate_left
    · intro w' hSw; go_simp; (try with_reducible rfl)
    refine tk 1 (v := ?_) ?_ ?_
    rotate_left
    · intro w' hSw; go_simp; (try with_reducible rfl)
    refine tk 2 (v := ?_) ?_ ?_
    rotate_left
    · intro w' hSw; go_simp; (try with_reducible rfl)
    refine tk 3 (v := ?_) ?_ ?_
    rotate_left
    · intro w' hSw; have z1 := (hSw.cell (p := ⟨k.p, 1, none⟩) hpW).trans c1; have z3 := (hSw.cell (p := ⟨w.heap.size, 3, none⟩) hgW).trans qa3; go_simp; (try with_reducible rfl)
    refine tk 4 (v := ?_) ?_ ?_
    rotate_left
    · intro w' hSw; go_simp; (try with_reducible rfl)
    refine tk 5 (v := ?_) ?_ ?_
    rotate_left
    · intro w' hSw; have z1 := (hSw.cell (p := ⟨k.p, 1, none⟩) hpW).trans c1; have z3 := (hSw.cell (p := ⟨w.heap.size, 3, none⟩) hgW).trans qa3; go_simp; (try with_reducible rfl)
    refine tk 6 (v := ?_) ?_ ?_
    rotate_left
    · intro w' hSw; have hl := (HMS.out.below hSw).run_ok keyI Try.underlying124 (zeroSb _) (kI ws) (v := .agg #[.int .i64 0, .int .i64 0, .int .i64 0, .string ⟨#[]⟩, .slice none 0 0, .slice none 0 0, .bool false, .bool false]) (c := false) (by rw [hfx]; rfl) (by rw [hfx]; rfl); go_simp; (try with_reducible rfl)
    refine tk 7 (v := ?_) ?_ ?_
    rotate_left
    · intro w' hSw; go_simp; (try with_reducible rfl)
    refine tk 8 (v := ?_) ?_ ?_
    rotate_left
    · intro w' hSw; go_simp; (try with_reducible rfl)
    refine tk 9 (v := ?_) ?_ ?_
    rotate_left
    · intro w' hSw; go_simp; (try with_reducible rfl)
    (try simp only [List.getElem_toArray, List.getElem_cons_succ, List.getElem_cons_zero, Act.put, List.setIfInBounds_toArray, List.set_cons_zero, List.set_cons_succ])
    refine wpAnyH_ready (rs := [10]) (by kernel_rfl) (by simp) ?_
    refine AllReadyH.cons rfl (fun K' hK => ?_) AllReadyH.nil
    go_simp
    refine hK.out _ _ (by (repeat (first | exact hHeld | exact Below.refl _ _ | (refine Below.alloc ?_ (by (try simp) <;> omega) _) | (refine Below.setCell ?_ (by (try simp) <;> omega) _) | refine Below.drew ?_ | refine below_drewN ?_ _))) (fun hHeld => ?_)
    clear hK K'
    (try simp only [List.getElem_toArray, List.getElem_cons_succ, List.getElem_cons_zero, Act.put, List.setIfInBounds_toArray, List.set_cons_zero, List.set_cons_succ])
    refine wpAnyH_ready (rs := [11]) (by kernel_rfl) (by simp) ?_
    refine AllReadyH.cons rfl (fun K' hK => ?_) AllReadyH.nil
    go_simp
    refine hK.out _ _ (by (repeat (first | exact hHeld | exact Below.refl _ _ | (refine Below.alloc ?_ (by (try simp) <;> omega) _) | (refine Below.setCell ?_ (by (try simp) <;> omega) _) | refine Below.drew ?_ | refine below_drewN ?_ _))) (fun hHeld => ?_)
    clear hK K'
    (try simp only [List.getElem_toArray, List.getElem_cons_succ, List.getElem_cons_zero, Act.put, List.setIfInBounds_toArray, List.set_cons_zero, List.set_cons_succ])
    refine tk 12 (v := ?_) ?_ ?_
    rotate_left
    · intro w' hSw; go_simp; (try with_reducible rfl)
    (try simp only [List.getElem_toArray, List.getElem_cons_succ, List.getElem_cons_zero, Act.put, List.setIfInBounds_toArray, List.set_cons_zero, List.set_cons_succ])
    refine wpAnyH_done (by kernel_rfl) ?_ _
    (try simp only [List.getElem_toArray, List.getElem_cons_succ, List.getElem_cons_zero, Act.put, List.setIfInBounds_toArray, List.set_cons_zero, List.set_cons_succ])
    obtain ⟨V, hV, hbV, hzV, fv, -⟩ := box1d W #[.int .i64 0, .int .i64 0, .int .i64 0, .string ⟨#[]⟩, .slice none 0 0, .slice none 0 0, .bool false, .bool false] 51
    rw [← hV]
    (have hzhbV := hbV.size; replace qa0 := cl hbV qa0; replace qa1 := cl hbV qa1; replace qa2 := cl hbV qa2; replace qa3 := cl hbV qa3; replace qa4 := cl hbV qa4; replace qa5 := cl hbV qa5; replace qa6 := cl hbV qa6)
    replace hT := hT.trans (hbV.mono hT.size)
    replace HR := Lib.hid (HR.out.below hbV)
    have hpV : k.p < V.heap.size := by omega
    have hgV : w.heap.size < V.heap.size := by omega
    have hgV2 : W.heap.size < V.heap.size := hzV
    have c2 := HR.out.c2
    have c3 := HR.out.c3
    obtain ⟨fe, hME, hFE⟩ := HR.out.ever
    have HME := Lib.hid hME
    have hlv := hFE sub
    clear hME hFE hV fv hHeld c1 HMS hfx
    have hl := fun z : Wd (Below V.heap.size V) => (HME.out.below z.h).run keyI Try.underlying125 (zeroB _) (kI ws) (v := .bool (s.ever sub)) hlv
    clear hlv
    have HCK := Lib.hid (show checkP s ⟨at_, K, acc, sub, num, name, val⟩ = if s.ever sub = true then 17 else 11 by have := HK.out; unfold checkP; dsimp only; rw [if_neg (by omega), if_neg (by omega), hsub])
    clear hsub hbV
    cases hev : s.ever sub
    case false =>
      rw [hev] at hl HCK
      have HQ := Lib.hid (HCK.out.trans (if_neg (by decide)))
      go_upto_region 13 with (fail)
      ((with_reducible refine wp_region_class (Below V.heap.size V) ?_ ?_ ?_ ?_); kernel_rfl; kernel_rfl; (exact (Below.refl _ _).drew); (intro hnonemp); (have zqa0 := fun z : Wd (Below V.heap.size V) => cl z.h qa0; have zqa1 := fun z : Wd (Below V.heap.size V) => cl z.h qa1; have zqa2 := fun z : Wd (Below V.heap.size V) => cl z.h qa2; have zqa3 := fun z : Wd (Below V.heap.size V) => cl z.h qa3; have zqa4 := fun z : Wd (Below V.heap.size V) => cl z.h qa4; have zqa5 := fun z : Wd (Below V.heap.size V) => cl z.h qa5; have zqa6 := fun z : Wd (Below V.heap.size V) => cl z.h qa6; have zc2 := fun z : Wd (Below V.heap.size V) => cl z.h c2); (repeat (any_goals (first | go_big_quiet_step (((first | fail))) | (refine wpQuiet_step (fun K hK => ?_); go_simp; (first | (refine hK _ ?_; clear hK K) | (split <;> rename_i hg <;> (refine hK _ ?_; clear hK K) <;> (try simp only [Bool.not_eq_true] at hg) <;> (first | simp only [Int.not_lt.2 hg, decide_false] | simp only [Int.not_le.1 hg, decide_true] | simp only [hg, decide_true, decide_false] | skip)))))));  all_goals (refine wpQuiet_nil ?_; intro wq hgq))
      all_goals
        replace hT := hT.trans (hgq.mono hT.size)
        go_wp2_with fail
        go_ret
        exact ⟨ret_int HQ.out.symm, hT⟩
    case true =>
      rw [hev] at hl HCK
      have HQ := Lib.hid (HCK.out.trans (if_pos rfl))
      go_upto_region 13 with (fail)
      ((with_reducible refine wp_region_class (Below V.heap.size V) ?_ ?_ ?_ ?_); kernel_rfl; kernel_rfl; (exact (Below.refl _ _).drew); (intro hnonemp); (have zqa0 := fun z : Wd (Below V.heap.size V) => cl z.h qa0; have zqa1 := fun z : Wd (Below V.heap.size V) => cl z.h qa1; have zqa2 := fun z : Wd (Below V.heap.size V) => cl z.h qa2; have zqa3 := fun z : Wd (Below V.heap.size V) => cl z.h qa3; have zqa4 := fun z : Wd (Below V.heap.size V) => cl z.h qa4; have zqa5 := fun z : Wd (Below V.heap.size V) => cl z.h qa5; have zqa6 := fun z : Wd (Below V.heap.size V) => cl z.h qa6; have zc2 := fun z : Wd (Below V.heap.size V) => cl z.h c2); (repeat (any_goals (first | go_big_quiet_step (((first | fail))) | (refine wpQuiet_step (fun K hK => ?_); go_simp; (first | (refine hK _ ?_; clear hK K) | (split <;> rename_i hg <;> (refine hK _ ?_; clear hK K) <;> (try simp only [Bool.not_eq_true] at hg) <;> (first | simp only [Int.not_lt.2 hg, decide_false] | simp only [Int.not_le.1 hg, decide_true] | simp only [hg, decide_true, decide_false] | skip)))))));  all_goals (refine wpQuiet_nil ?_; intro wq hgq))
      all_goals
        replace hT := hT.trans (hgq.mono hT.size)
        go_wp2_with fail
        go_ret
        exact ⟨ret_int HQ.out.symm, hT⟩
  case some =>
    rename_i sb
    rw [hsub] at hfx
    dsimp only at hfx
    obtain ⟨v, hv, hsr, -⟩ := hfx
    unfold Sv.val at hv
    have HSR := Lib.hid hsr.1
    clear hsr
    refine wp_region_held_drew (S := fun w' => Below W.heap.size W w') (by kernel_rfl) ((Below.refl _ _).drew) (fun hHeld => ?_)
    refine tk 0 (v := ?_) ?_ ?_
    rotate_left
    · intro w' hSw; go_simp; (try with_reducible rfl)
    refine tk 1 (v := ?_) ?_ ?_
    rotate_left
    · intro w' hSw; go_simp; (try with_reducible rfl)
    refine tk 2 (v := ?_) ?_ ?_
    rotate_left
    · intro w' hSw; go_simp; (try with_reducible rfl)
    refine tk 3 (v := ?_) ?_ ?_
    rotate_left
    · intro w' hSw; have z1 := (hSw.cell (p := ⟨k.p, 1, none⟩) hpW).trans c1; have z3 := (hSw.cell (p := ⟨w.heap.size, 3, none⟩) hgW).trans qa3; go_simp; (try with_reducible rfl)
    refine tk 4 (v := ?_) ?_ ?_
    rotate_left
    · intro w' hSw; go_simp; (try with_reducible rfl)
    refine tk 5 (v := ?_) ?_ ?_
    rotate_left
    · intro w' hSw; have z1 := (hSw.cell (p := ⟨k.p, 1, none⟩) hpW).trans c1; have z3 := (hSw.cell (p := ⟨w.heap.size, 3, none⟩) hgW).trans qa3; go_simp; (try with_reducible rfl)
    refine tk 6 (v := ?_) ?_ ?_
    rotate_left
    · intro w' hSw; have hl := (HMS.out.below hSw).run_ok keyI Try.underlying124 (zeroSb _) (kI ws) (v := .agg #[.int .i64 v.id, .int .i64 v.acc, .int .i64 v.since, .string v.plan, .slice v.An v.nn v.cn, .slice v.Ap v.np v.cp, .bool v.susp, .bool v.fam]) (c := true) (by rw [hv]; rfl) (by rw [hv]; rfl); go_simp; (try with_reducible rfl)
    refine tk 7 (v := ?_) ?_ ?_
    rotate_left
    · intro w' hSw; go_simp; (try with_reducible rfl)
    refine tk 8 (v := ?_) ?_ ?_
    rotate_left
    · intro w' hSw; go_simp; (try with_reducible rfl)
    refine tk 9 (v := ?_) ?_ ?_
    rotate_left
    · intro w' hSw; go_simp; (try with_reducible rfl)
    (try simp only [List.getElem_toArray, List.getElem_cons_succ, List.getElem_cons_zero, Act.put, List.setIfInBounds_toArray, List.set_cons_zero, List.set_cons_succ])
    refine wpAnyH_ready (rs := [10]) (by kernel_rfl) (by simp) ?_
    refine AllReadyH.cons rfl (fun K' hK => ?_) AllReadyH.nil
    go_simp
    refine hK.out _ _ (by (repeat (first | exact hHeld | exact Below.refl _ _ | (refine Below.alloc ?_ (by (try simp) <;> omega) _) | (refine Below.setCell ?_ (by (try simp) <;> omega) _) | refine Below.drew ?_ | refine below_drewN ?_ _))) (fun hHeld => ?_)
    clear hK K'
    (try simp only [List.getElem_toArray, List.getElem_cons_succ, List.getElem_cons_zero, Act.put, List.setIfInBounds_toArray, List.set_cons_zero, List.set_cons_succ])
    refine wpAnyH_ready (rs := [11]) (by kernel_rfl) (by simp) ?_
    refine AllReadyH.cons rfl (fun K' hK => ?_) AllReadyH.nil
    go_simp
    refine hK.out _ _ (by (repeat (first | exact hHeld | exact Below.refl _ _ | (refine Below.alloc ?_ (by (try simp) <;> omega) _) | (refine Below.setCell ?_ (by (try simp) <;> omega) _) | refine Below.drew ?_ | refine below_drewN ?_ _))) (fun hHeld => ?_)
    clear hK K'
    (try simp only [List.getElem_toArray, List.getElem_cons_succ, List.getElem_cons_zero, Act.put, List.setIfInBounds_toArray, List.set_cons_zero, List.set_cons_succ])
    refine tk 12 (v := ?_) ?_ ?_
    rotate_left
    · intro w' hSw; go_simp; (try with_reducible rfl)
    (try simp only [List.getElem_toArray, List.getElem_cons_succ, List.getElem_cons_zero, Act.put, List.setIfInBounds_toArray, List.set_cons_zero, List.set_cons_succ])
    refine wpAnyH_done (by kernel_rfl) ?_ _
    (try simp only [List.getElem_toArray, List.getElem_cons_succ, List.getElem_cons_zero, Act.put, List.setIfInBounds_toArray, List.set_cons_zero, List.set_cons_succ])
    obtain ⟨V, hV, hbV, hzV, fv, -⟩ := box1d W #[.int .i64 v.id, .int .i64 v.acc, .int .i64 v.since, .string v.plan, .slice v.An v.nn v.cn, .slice v.Ap v.np v.cp, .bool v.susp, .bool v.fam] 51
    rw [← hV]
    (have hzhbV := hbV.size; replace qa0 := cl hbV qa0; replace qa1 := cl hbV qa1; replace qa2 := cl hbV qa2; replace qa3 := cl hbV qa3; replace qa4 := cl hbV qa4; replace qa5 := cl hbV qa5; replace qa6 := cl hbV qa6)
    replace hT := hT.trans (hbV.mono hT.size)
    replace HR := Lib.hid (HR.out.below hbV)
    have hpV : k.p < V.heap.size := by omega
    have hgV : w.heap.size < V.heap.size := by omega
    have hgV2 : W.heap.size < V.heap.size := hzV
    have c2 := HR.out.c2
    have c3 := HR.out.c3
    have vb0 := fv 0 _ rfl
    have vb1 := fv 1 _ rfl
    have vb2 := fv 2 _ rfl
    have vb3 := fv 3 _ rfl
    have vb4 := fv 4 _ rfl
    have vb5 := fv 5 _ rfl
    have vb6 := fv 6 _ rfl
    have vb7 := fv 7 _ rfl
    replace HSR := Lib.hid (HSR.out.on hbV)
    obtain ⟨fo, hMO, hFO⟩ := HR.out.own
    have HMO := Lib.hid hMO
    have hfo := hFO num
    clear hMO hFO hV fv hHeld c1 HMS hv hbV
    have HSUB := Lib.hid hsub
    clear hsub
    go_upto_region 13 with (fail)
    ((with_reducible refine wp_region_quiet_lit ?_ ?_ ?_); kernel_rfl; kernel_rfl; (repeat (any_goals (first | go_big_quiet_step (fail) | (refine wpQuiet_step (fun K hK => ?_); go_simp; (first | (refine hK _ ?_; clear hK K) | (split <;> rename_i hg <;> (refine hK _ ?_; clear hK K) <;> (try simp only [Bool.not_eq_true] at hg) <;> (first | simp only [Int.not_lt.2 hg, decide_false] | simp only [Int.not_le.1 hg, decide_true] | simp only [hg, decide_true, decide_false] | skip))))))); all_goals (refine wpQuiet_nil ?_; intro _ hw'; obtain ⟨nq, hw''⟩ := hw'; subst hw''))
    all_goals go_upto_region 17 with (fail)
    obtain ⟨X, hX⟩ : ∃ X, X = V.drewN nq := ⟨_, rfl⟩
    rw [← hX]
    have hXb : Below V.heap.size V X := by rw [hX]; exact below_drewN (Below.refl _ _) _
    (have hzhXb := hXb.size; replace qa0 := cl hXb qa0; replace qa1 := cl hXb qa1; replace qa2 := cl hXb qa2; replace qa3 := cl hXb qa3; replace qa4 := cl hXb qa4; replace qa5 := cl hXb qa5; replace qa6 := cl hXb qa6; replace vb0 := cl hXb vb0; replace vb1 := cl hXb vb1; replace vb2 := cl hXb vb2; replace vb3 := cl hXb vb3; replace vb4 := cl hXb vb4; replace vb5 := cl hXb vb5; replace vb6 := cl hXb vb6; replace vb7 := cl hXb vb7; replace c3 := cl hXb c3)
    replace hT := hT.trans (hXb.mono hT.size)
    replace HSR := Lib.hid (HSR.out.on hXb)
    have hgX : w.heap.size < X.heap.size := by omega
    have hgX2 : W.heap.size < X.heap.size := by omega
    have hpX : k.p < X.heap.size := by omega
    obtain ⟨ow, how⟩ : ∃ o, s.own num.toList = o := ⟨_, rfl⟩
    have HOW := Lib.hid how
    rw [how] at hfo
    clear how hX
    have hK4 : K = 5 ∨ K = 6 ∨ K = 8 ∨ K = 9 ∨ (K ≠ 5 ∧ K ≠ 6 ∧ K ≠ 8 ∧ K ≠ 9) := by omega
    rcases hK4 with rfl | rfl | rfl | rfl | ⟨m5, m6, m8, m9⟩
    · clear b1 b2 b3 b14 b15
      have HCK := Lib.hid (show checkP s ⟨at_, 5, acc, sub, num, name, val⟩ = if (s.own num.toList).isSome = true then 12 else 0 by unfold checkP; simp [HSUB.out])
      replace HCK := Lib.hid (by have h := HCK.out; rw [HOW.out] at h; exact h)
      clear HSUB HOW HK
      cases ow
      case none =>
        have hl := fun z : Wd (Below X.heap.size X) => (HMO.out.below (hXb.trans (z.h.mono hXb.size))).run_ok keyS Try.underlying108 (zeroI _) (kS hnm) (v := .int .i64 0) (c := false) (by rw [hfo]; rfl) (by rw [hfo]; rfl)
        clear hfo
        ((with_reducible refine wp_region_class (Below X.heap.size X) ?_ ?_ ?_ ?_); kernel_rfl; kernel_rfl; (exact (Below.refl _ _).drew); (intro hnonemp); (have zqa0 := fun z : Wd (Below X.heap.size X) => cl z.h qa0; have zqa1 := fun z : Wd (Below X.heap.size X) => cl z.h qa1; have zqa2 := fun z : Wd (Below X.heap.size X) => cl z.h qa2; have zqa3 := fun z : Wd (Below X.heap.size X) => cl z.h qa3; have zqa4 := fun z : Wd (Below X.heap.size X) => cl z.h qa4; have zqa5 := fun z : Wd (Below X.heap.size X) => cl z.h qa5; have zqa6 := fun z : Wd (Below X.heap.size X) => cl z.h qa6; have zvb0 := fun z : Wd (Below X.heap.size X) => cl z.h vb0; have zvb1 := fun z : Wd (Below X.heap.size X) => cl z.h vb1; have zvb2 := fun z : Wd (Below X.heap.size X) => cl z.h vb2; have zvb3 := fun z : Wd (Below X.heap.size X) => cl z.h vb3; have zvb4 := fun z : Wd (Below X.heap.size X) => cl z.h vb4; have zvb5 := fun z : Wd (Below X.heap.size X) => cl z.h vb5; have zvb6 := fun z : Wd (Below X.heap.size X) => cl z.h vb6; have zvb7 := fun z : Wd (Below X.heap.size X) => cl z.h vb7; have zc3 := fun z : Wd (Below X.heap.size X) => cl z.h c3); (repeat (any_goals (first | go_big_quiet_step (((first | fail))) | (refine wpQuiet_step (fun K hK => ?_); go_simp; (first | (refine hK _ ?_; clear hK K) | (split <;> rename_i hg <;> (refine hK _ ?_; clear hK K) <;> (try simp only [Bool.not_eq_true] at hg) <;> (first | simp only [Int.not_lt.2 hg, decide_false] | simp only [Int.not_le.1 hg, decide_true] | simp only [hg, decide_true, decide_false] | skip)))))));  all_goals (refine wpQuiet_nil ?_; intro wq hgq))
        replace hT := hT.trans (hgq.mono hT.size)
        replace HSR := Lib.hid (HSR.out.on hgq)
        (have hzhgq := hgq.size; replace qa0 := cl hgq qa0; replace qa1 := cl hgq qa1; replace qa2 := cl hgq qa2; replace qa3 := cl hgq qa3; replace qa4 := cl hgq qa4; replace qa5 := cl hgq qa5; replace qa6 := cl hgq qa6; replace vb0 := cl hgq vb0; replace vb1 := cl hgq vb1; replace vb2 := cl hgq vb2; replace vb3 := cl hgq vb3; replace vb4 := cl hgq vb4; replace vb5 := cl hgq vb5; replace vb6 := cl hgq vb6; replace vb7 := cl hgq vb7)
        have hg17 : w.heap.size < wq.heap.size := by omega
        have hg17b : W.heap.size < wq.heap.size := by omega
        clear hl hXb zc3 zqa0 zqa1 zqa2 zqa3 zqa4 zqa5 zqa6 zvb0 zvb1 zvb2 zvb3 zvb4 zvb5 zvb6 zvb7
        have HQ := Lib.hid (HCK.out.trans (if_neg (by decide)))
        go_wp2_with fail
        go_ret
        exact ⟨ret_int HQ.out.symm, hT⟩
      case some =>
        rename_i ow
        have hl := fun z : Wd (Below X.heap.size X) => (HMO.out.below (hXb.trans (z.h.mono hXb.size))).run_ok keyS Try.underlying108 (zeroI _) (kS hnm) (v := .int .i64 ow) (c := true) (by rw [hfo]; rfl) (by rw [hfo]; rfl)
        clear hfo
        ((with_reducible refine wp_region_class (Below X.heap.size X) ?_ ?_ ?_ ?_); kernel_rfl; kernel_rfl; (exact (Below.refl _ _).drew); (intro hnonemp); (have zqa0 := fun z : Wd (Below X.heap.size X) => cl z.h qa0; have zqa1 := fun z : Wd (Below X.heap.size X) => cl z.h qa1; have zqa2 := fun z : Wd (Below X.heap.size X) => cl z.h qa2; have zqa3 := fun z : Wd (Below X.heap.size X) => cl z.h qa3; have zqa4 := fun z : Wd (Below X.heap.size X) => cl z.h qa4; have zqa5 := fun z : Wd (Below X.heap.size X) => cl z.h qa5; have zqa6 := fun z : Wd (Below X.heap.size X) => cl z.h qa6; have zvb0 := fun z : Wd (Below X.heap.size X) => cl z.h vb0; have zvb1 := fun z : Wd (Below X.heap.size X) => cl z.h vb1; have zvb2 := fun z : Wd (Below X.heap.size X) => cl z.h vb2; have zvb3 := fun z : Wd (Below X.heap.size X) => cl z.h vb3; have zvb4 := fun z : Wd (Below X.heap.size X) => cl z.h vb4; have zvb5 := fun z : Wd (Below X.heap.size X) => cl z.h vb5; have zvb6 := fun z : Wd (Below X.heap.size X) => cl z.h vb6; have zvb7 := fun z : Wd (Below X.heap.size X) => cl z.h vb7; have zc3 := fun z : Wd (Below X.heap.size X) => cl z.h c3); (repeat (any_goals (first | go_big_quiet_step (((first | fail))) | (refine wpQuiet_step (fun K hK => ?_); go_simp; (first | (refine hK _ ?_; clear hK K) | (split <;> rename_i hg <;> (refine hK _ ?_; clear hK K) <;> (try simp only [Bool.not_eq_true] at hg) <;> (first | simp only [Int.not_lt.2 hg, decide_false] | simp only [Int.not_le.1 hg, decide_true] | simp only [hg, decide_true, decide_false] | skip)))))));  all_goals (refine wpQuiet_nil ?_; intro wq hgq))
        replace hT := hT.trans (hgq.mono hT.size)
        replace HSR := Lib.hid (HSR.out.on hgq)
        (have hzhgq := hgq.size; replace qa0 := cl hgq qa0; replace qa1 := cl hgq qa1; replace qa2 := cl hgq qa2; replace qa3 := cl hgq qa3; replace qa4 := cl hgq qa4; replace qa5 := cl hgq qa5; replace qa6 := cl hgq qa6; replace vb0 := cl hgq vb0; replace vb1 := cl hgq vb1; replace vb2 := cl hgq vb2; replace vb3 := cl hgq vb3; replace vb4 := cl hgq vb4; replace vb5 := cl hgq vb5; replace vb6 := cl hgq vb6; replace vb7 := cl hgq vb7)
        have hg17 : w.heap.size < wq.heap.size := by omega
        have hg17b : W.heap.size < wq.heap.size := by omega
        clear hl hXb zc3 zqa0 zqa1 zqa2 zqa3 zqa4 zqa5 zqa6 zvb0 zvb1 zvb2 zvb3 zvb4 zvb5 zvb6 zvb7
        have HQ := Lib.hid (HCK.out.trans (if_pos rfl))
        go_wp2_with fail
        go_ret
        exact ⟨ret_int HQ.out.symm, hT⟩
    · clear b1 b2 b3 b14 b15
      have HCK := Lib.hid (show checkP s ⟨at_, 6, acc, sub, num, name, val⟩ = if s.own num.toList = some sub then 0 else 12 by unfold checkP; simp [HSUB.out])
      replace HCK := Lib.hid (by have h := HCK.out; rw [HOW.out] at h; exact h)
      clear HSUB HOW HK
      cases ow
      case none =>
        have hl := fun z : Wd (Below X.heap.size X) => (HMO.out.below (hXb.trans (z.h.mono hXb.size))).run_ok keyS Try.underlying108 (zeroI _) (kS hnm) (v := .int .i64 0) (c := false) (by rw [hfo]; rfl) (by rw [hfo]; rfl)
        clear hfo
        ((with_reducible refine wp_region_class (Below X.heap.size X) ?_ ?_ ?_ ?_); kernel_rfl; kernel_rfl; (exact (Below.refl _ _).drew); (intro hnonemp); (have zqa0 := fun z : Wd (Below X.heap.size X) => cl z.h qa0; have zqa1 := fun z : Wd (Below X.heap.size X) => cl z.h qa1; have zqa2 := fun z : Wd (Below X.heap.size X) => cl z.h qa2; have zqa3 := fun z : Wd (Below X.heap.size X) => cl z.h qa3; have zqa4 := fun z : Wd (Below X.heap.size X) => cl z.h qa4; have zqa5 := fun z : Wd (Below X.heap.size X) => cl z.h qa5; have zqa6 := fun z : Wd (Below X.heap.size X) => cl z.h qa6; have zvb0 := fun z : Wd (Below X.heap.size X) => cl z.h vb0; have zvb1 := fun z : Wd (Below X.heap.size X) => cl z.h vb1; have zvb2 := fun z : Wd (Below X.heap.size X) => cl z.h vb2; have zvb3 := fun z : Wd (Below X.heap.size X) => cl z.h vb3; have zvb4 := fun z : Wd (Below X.heap.size X) => cl z.h vb4; have zvb5 := fun z : Wd (Below X.heap.size X) => cl z.h vb5; have zvb6 := fun z : Wd (Below X.heap.size X) => cl z.h vb6; have zvb7 := fun z : Wd (Below X.heap.size X) => cl z.h vb7; have zc3 := fun z : Wd (Below X.heap.size X) => cl z.h c3); (repeat (any_goals (first | go_big_quiet_step (((first | fail))) | (refine wpQuiet_step (fun K hK => ?_); go_simp; (first | (refine hK _ ?_; clear hK K) | (split <;> rename_i hg <;> (refine hK _ ?_; clear hK K) <;> (try simp only [Bool.not_eq_true] at hg) <;> (first | simp only [Int.not_lt.2 hg, decide_false] | simp only [Int.not_le.1 hg, decide_true] | simp only [hg, decide_true, decide_false] | skip)))))));  all_goals (refine wpQuiet_nil ?_; intro wq hgq))
        replace hT := hT.trans (hgq.mono hT.size)
        replace HSR := Lib.hid (HSR.out.on hgq)
        (have hzhgq := hgq.size; replace qa0 := cl hgq qa0; replace qa1 := cl hgq qa1; replace qa2 := cl hgq qa2; replace qa3 := cl hgq qa3; replace qa4 := cl hgq qa4; replace qa5 := cl hgq qa5; replace qa6 := cl hgq qa6; replace vb0 := cl hgq vb0; replace vb1 := cl hgq vb1; replace vb2 := cl hgq vb2; replace vb3 := cl hgq vb3; replace vb4 := cl hgq vb4; replace vb5 := cl hgq vb5; replace vb6 := cl hgq vb6; replace vb7 := cl hgq vb7)
        have hg17 : w.heap.size < wq.heap.size := by omega
        have hg17b : W.heap.size < wq.heap.size := by omega
        clear hl hXb zc3 zqa0 zqa1 zqa2 zqa3 zqa4 zqa5 zqa6 zvb0 zvb1 zvb2 zvb3 zvb4 zvb5 zvb6 zvb7
        have HQ := Lib.hid (HCK.out.trans (if_neg (by simp)))
        go_wp2_with fail
        go_ret
        exact ⟨ret_int HQ.out.symm, hT⟩
      case some =>
        rename_i ow
        have hl := fun z : Wd (Below X.heap.size X) => (HMO.out.below (hXb.trans (z.h.mono hXb.size))).run_ok keyS Try.underlying108 (zeroI _) (kS hnm) (v := .int .i64 ow) (c := true) (by rw [hfo]; rfl) (by rw [hfo]; rfl)
        clear hfo
        by_cases hos : ow = sub
        · subst hos
          ((with_reducible refine wp_region_class (Below X.heap.size X) ?_ ?_ ?_ ?_); kernel_rfl; kernel_rfl; (exact (Below.refl _ _).drew); (intro hnonemp); (have zqa0 := fun z : Wd (Below X.heap.size X) => cl z.h qa0; have zqa1 := fun z : Wd (Below X.heap.size X) => cl z.h qa1; have zqa2 := fun z : Wd (Below X.heap.size X) => cl z.h qa2; have zqa3 := fun z : Wd (Below X.heap.size X) => cl z.h qa3; have zqa4 := fun z : Wd (Below X.heap.size X) => cl z.h qa4; have zqa5 := fun z : Wd (Below X.heap.size X) => cl z.h qa5; have zqa6 := fun z : Wd (Below X.heap.size X) => cl z.h qa6; have zvb0 := fun z : Wd (Below X.heap.size X) => cl z.h vb0; have zvb1 := fun z : Wd (Below X.heap.size X) => cl z.h vb1; have zvb2 := fun z : Wd (Below X.heap.size X) => cl z.h vb2; have zvb3 := fun z : Wd (Below X.heap.size X) => cl z.h vb3; have zvb4 := fun z : Wd (Below X.heap.size X) => cl z.h vb4; have zvb5 := fun z : Wd (Below X.heap.size X) => cl z.h vb5; have zvb6 := fun z : Wd (Below X.heap.size X) => cl z.h vb6; have zvb7 := fun z : Wd (Below X.heap.size X) => cl z.h vb7; have zc3 := fun z : Wd (Below X.heap.size X) => cl z.h c3); (repeat (any_goals (first | go_big_quiet_step (((first | fail))) | (refine wpQuiet_step (fun K hK => ?_); go_simp; (first | (refine hK _ ?_; clear hK K) | (split <;> rename_i hg <;> (refine hK _ ?_; clear hK K) <;> (try simp only [Bool.not_eq_true] at hg) <;> (first | simp only [Int.not_lt.2 hg, decide_false] | simp only [Int.not_le.1 hg, decide_true] | simp only [hg, decide_true, decide_false] | skip)))))));  all_goals (refine wpQuiet_nil ?_; intro wq hgq))
          replace hT := hT.trans (hgq.mono hT.size)
          replace HSR := Lib.hid (HSR.out.on hgq)
          (have hzhgq := hgq.size; replace qa0 := cl hgq qa0; replace qa1 := cl hgq qa1; replace qa2 := cl hgq qa2; replace qa3 := cl hgq qa3; replace qa4 := cl hgq qa4; replace qa5 := cl hgq qa5; replace qa6 := cl hgq qa6; replace vb0 := cl hgq vb0; replace vb1 := cl hgq vb1; replace vb2 := cl hgq vb2; replace vb3 := cl hgq vb3; replace vb4 := cl hgq vb4; replace vb5 := cl hgq vb5; replace vb6 := cl hgq vb6; replace vb7 := cl hgq vb7)
          have hg17 : w.heap.size < wq.heap.size := by omega
          have hg17b : W.heap.size < wq.heap.size := by omega
          clear hl hXb zc3 zqa0 zqa1 zqa2 zqa3 zqa4 zqa5 zqa6 zvb0 zvb1 zvb2 zvb3 zvb4 zvb5 zvb6 zvb7
          have HQ := Lib.hid (HCK.out.trans (if_pos rfl))
          go_wp2_with fail
          go_ret
          exact ⟨ret_int HQ.out.symm, hT⟩
        · have bos : (ow != sub) = true := by simpa using hos
          have HOS := Lib.hid hos
          clear hos
          ((with_reducible refine wp_region_class (Below X.heap.size X) ?_ ?_ ?_ ?_); kernel_rfl; kernel_rfl; (exact (Below.refl _ _).drew); (intro hnonemp); (have zqa0 := fun z : Wd (Below X.heap.size X) => cl z.h qa0; have zqa1 := fun z : Wd (Below X.heap.size X) => cl z.h qa1; have zqa2 := fun z : Wd (Below X.heap.size X) => cl z.h qa2; have zqa3 := fun z : Wd (Below X.heap.size X) => cl z.h qa3; have zqa4 := fun z : Wd (Below X.heap.size X) => cl z.h qa4; have zqa5 := fun z : Wd (Below X.heap.size X) => cl z.h qa5; have zqa6 := fun z : Wd (Below X.heap.size X) => cl z.h qa6; have zvb0 := fun z : Wd (Below X.heap.size X) => cl z.h vb0; have zvb1 := fun z : Wd (Below X.heap.size X) => cl z.h vb1; have zvb2 := fun z : Wd (Below X.heap.size X) => cl z.h vb2; have zvb3 := fun z : Wd (Below X.heap.size X) => cl z.h vb3; have zvb4 := fun z : Wd (Below X.heap.size X) => cl z.h vb4; have zvb5 := fun z : Wd (Below X.heap.size X) => cl z.h vb5; have zvb6 := fun z : Wd (Below X.heap.size X) => cl z.h vb6; have zvb7 := fun z : Wd (Below X.heap.size X) => cl z.h vb7; have zc3 := fun z : Wd (Below X.heap.size X) => cl z.h c3); (repeat (any_goals (first | go_big_quiet_step (((first | fail))) | (refine wpQuiet_step (fun K hK => ?_); go_simp; (first | (refine hK _ ?_; clear hK K) | (split <;> rename_i hg <;> (refine hK _ ?_; clear hK K) <;> (try simp only [Bool.not_eq_true] at hg) <;> (first | simp only [Int.not_lt.2 hg, decide_false] | simp only [Int.not_le.1 hg, decide_true] | simp only [hg, decide_true, decide_false] | skip)))))));  all_goals (refine wpQuiet_nil ?_; intro wq hgq))
          replace hT := hT.trans (hgq.mono hT.size)
          replace HSR := Lib.hid (HSR.out.on hgq)
          (have hzhgq := hgq.size; replace qa0 := cl hgq qa0; replace qa1 := cl hgq qa1; replace qa2 := cl hgq qa2; replace qa3 := cl hgq qa3; replace qa4 := cl hgq qa4; replace qa5 := cl hgq qa5; replace qa6 := cl hgq qa6; replace vb0 := cl hgq vb0; replace vb1 := cl hgq vb1; replace vb2 := cl hgq vb2; replace vb3 := cl hgq vb3; replace vb4 := cl hgq vb4; replace vb5 := cl hgq vb5; replace vb6 := cl hgq vb6; replace vb7 := cl hgq vb7)
          have hg17 : w.heap.size < wq.heap.size := by omega
          have hg17b : W.heap.size < wq.heap.size := by omega
          clear hl hXb zc3 zqa0 zqa1 zqa2 zqa3 zqa4 zqa5 zqa6 zvb0 zvb1 zvb2 zvb3 zvb4 zvb5 zvb6 zvb7
          have HQ := Lib.hid (HCK.out.trans (if_neg (fun h => HOS.out (by injection h))))
          go_wp2_with fail
          go_ret
          exact ⟨ret_int HQ.out.symm, hT⟩
    · clear b1 b2 b3 b14 b15
      have HCK := Lib.hid (show checkP s ⟨at_, 8, acc, sub, num, name, val⟩ = if hasS sb.prods name = true then 10 else 0 by unfold checkP; simp [HSUB.out])
      clear HSUB HOW HK
      cases ow
      case none =>
        have hl := fun z : Wd (Below X.heap.size X) => (HMO.out.below (hXb.trans (z.h.mono hXb.size))).run_ok keyS Try.underlying108 (zeroI _) (kS hnm) (v := .int .i64 0) (c := false) (by rw [hfo]; rfl) (by rw [hfo]; rfl)
        clear hfo
        ((with_reducible refine wp_region_class (Below X.heap.size X) ?_ ?_ ?_ ?_); kernel_rfl; kernel_rfl; (exact (Below.refl _ _).drew); (intro hnonemp); (have zqa0 := fun z : Wd (Below X.heap.size X) => cl z.h qa0; have zqa1 := fun z : Wd (Below X.heap.size X) => cl z.h qa1; have zqa2 := fun z : Wd (Below X.heap.size X) => cl z.h qa2; have zqa3 := fun z : Wd (Below X.heap.size X) => cl z.h qa3; have zqa4 := fun z : Wd (Below X.heap.size X) => cl z.h qa4; have zqa5 := fun z : Wd (Below X.heap.size X) => cl z.h qa5; have zqa6 := fun z : Wd (Below X.heap.size X) => cl z.h qa6; have zvb0 := fun z : Wd (Below X.heap.size X) => cl z.h vb0; have zvb1 := fun z : Wd (Below X.heap.size X) => cl z.h vb1; have zvb2 := fun z : Wd (Below X.heap.size X) => cl z.h vb2; have zvb3 := fun z : Wd (Below X.heap.size X) => cl z.h vb3; have zvb4 := fun z : Wd (Below X.heap.size X) => cl z.h vb4; have zvb5 := fun z : Wd (Below X.heap.size X) => cl z.h vb5; have zvb6 := fun z : Wd (Below X.heap.size X) => cl z.h vb6; have zvb7 := fun z : Wd (Below X.heap.size X) => cl z.h vb7; have zc3 := fun z : Wd (Below X.heap.size X) => cl z.h c3); (repeat (any_goals (first | go_big_quiet_step (((first | fail))) | (refine wpQuiet_step (fun K hK => ?_); go_simp; (first | (refine hK _ ?_; clear hK K) | (split <;> rename_i hg <;> (refine hK _ ?_; clear hK K) <;> (try simp only [Bool.not_eq_true] at hg) <;> (first | simp only [Int.not_lt.2 hg, decide_false] | simp only [Int.not_le.1 hg, decide_true] | simp only [hg, decide_true, decide_false] | skip)))))));  all_goals (refine wpQuiet_nil ?_; intro wq hgq))
        replace hT := hT.trans (hgq.mono hT.size)
        replace HSR := Lib.hid (HSR.out.on hgq)
        (have hzhgq := hgq.size; replace qa0 := cl hgq qa0; replace qa1 := cl hgq qa1; replace qa2 := cl hgq qa2; replace qa3 := cl hgq qa3; replace qa4 := cl hgq qa4; replace qa5 := cl hgq qa5; replace qa6 := cl hgq qa6; replace vb0 := cl hgq vb0; replace vb1 := cl hgq vb1; replace vb2 := cl hgq vb2; replace vb3 := cl hgq vb3; replace vb4 := cl hgq vb4; replace vb5 := cl hgq vb5; replace vb6 := cl hgq vb6; replace vb7 := cl hgq vb7)
        have hg17 : w.heap.size < wq.heap.size := by omega
        have hg17b : W.heap.size < wq.heap.size := by omega
        clear hl hXb zc3 zqa0 zqa1 zqa2 zqa3 zqa4 zqa5 zqa6 zvb0 zvb1 zvb2 zvb3 zvb4 zvb5 zvb6 zvb7
        cases hh : hasS sb.prods name
        case false =>
          have HH := Lib.hid hh
          rw [hh] at HCK
          clear hh
          go_wp2_with (go_at_call 98; refine (has_any v.Ap v.np v.cp sb.prods name _ HSR.out.p).mono ?_; rw [HH.out]; rintro r w' ⟨rfl, rfl⟩)
          have HQ := Lib.hid (HCK.out.trans (if_neg (by decide)))
          go_ret
          exact ⟨ret_int HQ.out.symm, hT⟩
        case true =>
          have HH := Lib.hid hh
          rw [hh] at HCK
          clear hh
          go_wp2_with (go_at_call 98; refine (has_any v.Ap v.np v.cp sb.prods name _ HSR.out.p).mono ?_; rw [HH.out]; rintro r w' ⟨rfl, rfl⟩)
          have HQ := Lib.hid (HCK.out.trans (if_pos (by simp)))
          go_ret
          exact ⟨ret_int HQ.out.symm, hT⟩
      case some =>
        rename_i ow
        have hl := fun z : Wd (Below X.heap.size X) => (HMO.out.below (hXb.trans (z.h.mono hXb.size))).run_ok keyS Try.underlying108 (zeroI _) (kS hnm) (v := .int .i64 ow) (c := true) (by rw [hfo]; rfl) (by rw [hfo]; rfl)
        clear hfo
        ((with_reducible refine wp_region_class (Below X.heap.size X) ?_ ?_ ?_ ?_); kernel_rfl; kernel_rfl; (exact (Below.refl _ _).drew); (intro hnonemp); (have zqa0 := fun z : Wd (Below X.heap.size X) => cl z.h qa0; have zqa1 := fun z : Wd (Below X.heap.size X) => cl z.h qa1; have zqa2 := fun z : Wd (Below X.heap.size X) => cl z.h qa2; have zqa3 := fun z : Wd (Below X.heap.size X) => cl z.h qa3; have zqa4 := fun z : Wd (Below X.heap.size X) => cl z.h qa4; have zqa5 := fun z : Wd (Below X.heap.size X) => cl z.h qa5; have zqa6 := fun z : Wd (Below X.heap.size X) => cl z.h qa6; have zvb0 := fun z : Wd (Below X.heap.size X) => cl z.h vb0; have zvb1 := fun z : Wd (Below X.heap.size X) => cl z.h vb1; have zvb2 := fun z : Wd (Below X.heap.size X) => cl z.h vb2; have zvb3 := fun z : Wd (Below X.heap.size X) => cl z.h vb3; have zvb4 := fun z : Wd (Below X.heap.size X) => cl z.h vb4; have zvb5 := fun z : Wd (Below X.heap.size X) => cl z.h vb5; have zvb6 := fun z : Wd (Below X.heap.size X) => cl z.h vb6; have zvb7 := fun z : Wd (Below X.heap.size X) => cl z.h vb7; have zc3 := fun z : Wd (Below X.heap.size X) => cl z.h c3); (repeat (any_goals (first | go_big_quiet_step (((first | fail))) | (refine wpQuiet_step (fun K hK => ?_); go_simp; (first | (refine hK _ ?_; clear hK K) | (split <;> rename_i hg <;> (refine hK _ ?_; clear hK K) <;> (try simp only [Bool.not_eq_true] at hg) <;> (first | simp only [Int.not_lt.2 hg, decide_false] | simp only [Int.not_le.1 hg, decide_true] | simp only [hg, decide_true, decide_false] | skip)))))));  all_goals (refine wpQuiet_nil ?_; intro wq hgq))
        replace hT := hT.trans (hgq.mono hT.size)
        replace HSR := Lib.hid (HSR.out.on hgq)
        (have hzhgq := hgq.size; replace qa0 := cl hgq qa0; replace qa1 := cl hgq qa1; replace qa2 := cl hgq qa2; replace qa3 := cl hgq qa3; replace qa4 := cl hgq qa4; replace qa5 := cl hgq qa5; replace qa6 := cl hgq qa6; replace vb0 := cl hgq vb0; replace vb1 := cl hgq vb1; replace vb2 := cl hgq vb2; replace vb3 := cl hgq vb3; replace vb4 := cl hgq vb4; replace vb5 := cl hgq vb5; replace vb6 := cl hgq vb6; replace vb7 := cl hgq vb7)
        have hg17 : w.heap.size < wq.heap.size := by omega
        have hg17b : W.heap.size < wq.heap.size := by omega
        clear hl hXb zc3 zqa0 zqa1 zqa2 zqa3 zqa4 zqa5 zqa6 zvb0 zvb1 zvb2 zvb3 zvb4 zvb5 zvb6 zvb7
        cases hh : hasS sb.prods name
        case false =>
          have HH := Lib.hid hh
          rw [hh] at HCK
          clear hh
          go_wp2_with (go_at_call 98; refine (has_any v.Ap v.np v.cp sb.prods name _ HSR.out.p).mono ?_; rw [HH.out]; rintro r w' ⟨rfl, rfl⟩)
          have HQ := Lib.hid (HCK.out.trans (if_neg (by decide)))
          go_ret
          exact ⟨ret_int HQ.out.symm, hT⟩
        case true =>
          have HH := Lib.hid hh
          rw [hh] at HCK
          clear hh
          go_wp2_with (go_at_call 98; refine (has_any v.Ap v.np v.cp sb.prods name _ HSR.out.p).mono ?_; rw [HH.out]; rintro r w' ⟨rfl, rfl⟩)
          have HQ := Lib.hid (HCK.out.trans (if_pos (by simp)))
          go_ret
          exact ⟨ret_int HQ.out.symm, hT⟩
    · clear b1 b2 b3 b14 b15
      have HCK := Lib.hid (show checkP s ⟨at_, 9, acc, sub, num, name, val⟩ = if hasS sb.prods name = true then 0 else 11 by unfold checkP; simp [HSUB.out])
      clear HSUB HOW HK
      cases ow
      case none =>
        have hl := fun z : Wd (Below X.heap.size X) => (HMO.out.below (hXb.trans (z.h.mono hXb.size))).run_ok keyS Try.underlying108 (zeroI _) (kS hnm) (v := .int .i64 0) (c := false) (by rw [hfo]; rfl) (by rw [hfo]; rfl)
        clear hfo
        ((with_reducible refine wp_region_class (Below X.heap.size X) ?_ ?_ ?_ ?_); kernel_rfl; kernel_rfl; (exact (Below.refl _ _).drew); (intro hnonemp); (have zqa0 := fun z : Wd (Below X.heap.size X) => cl z.h qa0; have zqa1 := fun z : Wd (Below X.heap.size X) => cl z.h qa1; have zqa2 := fun z : Wd (Below X.heap.size X) => cl z.h qa2; have zqa3 := fun z : Wd (Below X.heap.size X) => cl z.h qa3; have zqa4 := fun z : Wd (Below X.heap.size X) => cl z.h qa4; have zqa5 := fun z : Wd (Below X.heap.size X) => cl z.h qa5; have zqa6 := fun z : Wd (Below X.heap.size X) => cl z.h qa6; have zvb0 := fun z : Wd (Below X.heap.size X) => cl z.h vb0; have zvb1 := fun z : Wd (Below X.heap.size X) => cl z.h vb1; have zvb2 := fun z : Wd (Below X.heap.size X) => cl z.h vb2; have zvb3 := fun z : Wd (Below X.heap.size X) => cl z.h vb3; have zvb4 := fun z : Wd (Below X.heap.size X) => cl z.h vb4; have zvb5 := fun z : Wd (Below X.heap.size X) => cl z.h vb5; have zvb6 := fun z : Wd (Below X.heap.size X) => cl z.h vb6; have zvb7 := fun z : Wd (Below X.heap.size X) => cl z.h vb7; have zc3 := fun z : Wd (Below X.heap.size X) => cl z.h c3); (repeat (any_goals (first | go_big_quiet_step (((first | fail))) | (refine wpQuiet_step (fun K hK => ?_); go_simp; (first | (refine hK _ ?_; clear hK K) | (split <;> rename_i hg <;> (refine hK _ ?_; clear hK K) <;> (try simp only [Bool.not_eq_true] at hg) <;> (first | simp only [Int.not_lt.2 hg, decide_false] | simp only [Int.not_le.1 hg, decide_true] | simp only [hg, decide_true, decide_false] | skip)))))));  all_goals (refine wpQuiet_nil ?_; intro wq hgq))
        replace hT := hT.trans (hgq.mono hT.size)
        replace HSR := Lib.hid (HSR.out.on hgq)
        (have hzhgq := hgq.size; replace qa0 := cl hgq qa0; replace qa1 := cl hgq qa1; replace qa2 := cl hgq qa2; replace qa3 := cl hgq qa3; replace qa4 := cl hgq qa4; replace qa5 := cl hgq qa5; replace qa6 := cl hgq qa6; replace vb0 := cl hgq vb0; replace vb1 := cl hgq vb1; replace vb2 := cl hgq vb2; replace vb3 := cl hgq vb3; replace vb4 := cl hgq vb4; replace vb5 := cl hgq vb5; replace vb6 := cl hgq vb6; replace vb7 := cl hgq vb7)
        have hg17 : w.heap.size < wq.heap.size := by omega
        have hg17b : W.heap.size < wq.heap.size := by omega
        clear hl hXb zc3 zqa0 zqa1 zqa2 zqa3 zqa4 zqa5 zqa6 zvb0 zvb1 zvb2 zvb3 zvb4 zvb5 zvb6 zvb7
        cases hh : hasS sb.prods name
        case false =>
          have HH := Lib.hid hh
          rw [hh] at HCK
          clear hh
          go_wp2_with (go_at_call 98; refine (has_any v.Ap v.np v.cp sb.prods name _ HSR.out.p).mono ?_; rw [HH.out]; rintro r w' ⟨rfl, rfl⟩)
          have HQ := Lib.hid (HCK.out.trans (if_neg (by decide)))
          go_ret
          exact ⟨ret_int HQ.out.symm, hT⟩
        case true =>
          have HH := Lib.hid hh
          rw [hh] at HCK
          clear hh
          go_wp2_with (go_at_call 98; refine (has_any v.Ap v.np v.cp sb.prods name _ HSR.out.p).mono ?_; rw [HH.out]; rintro r w' ⟨rfl, rfl⟩)
          have HQ := Lib.hid (HCK.out.trans (if_pos (by simp)))
          go_ret
          exact ⟨ret_int HQ.out.symm, hT⟩
      case some =>
        rename_i ow
        have hl := fun z : Wd (Below X.heap.size X) => (HMO.out.below (hXb.trans (z.h.mono hXb.size))).run_ok keyS Try.underlying108 (zeroI _) (kS hnm) (v := .int .i64 ow) (c := true) (by rw [hfo]; rfl) (by rw [hfo]; rfl)
        clear hfo
        ((with_reducible refine wp_region_class (Below X.heap.size X) ?_ ?_ ?_ ?_); kernel_rfl; kernel_rfl; (exact (Below.refl _ _).drew); (intro hnonemp); (have zqa0 := fun z : Wd (Below X.heap.size X) => cl z.h qa0; have zqa1 := fun z : Wd (Below X.heap.size X) => cl z.h qa1; have zqa2 := fun z : Wd (Below X.heap.size X) => cl z.h qa2; have zqa3 := fun z : Wd (Below X.heap.size X) => cl z.h qa3; have zqa4 := fun z : Wd (Below X.heap.size X) => cl z.h qa4; have zqa5 := fun z : Wd (Below X.heap.size X) => cl z.h qa5; have zqa6 := fun z : Wd (Below X.heap.size X) => cl z.h qa6; have zvb0 := fun z : Wd (Below X.heap.size X) => cl z.h vb0; have zvb1 := fun z : Wd (Below X.heap.size X) => cl z.h vb1; have zvb2 := fun z : Wd (Below X.heap.size X) => cl z.h vb2; have zvb3 := fun z : Wd (Below X.heap.size X) => cl z.h vb3; have zvb4 := fun z : Wd (Below X.heap.size X) => cl z.h vb4; have zvb5 := fun z : Wd (Below X.heap.size X) => cl z.h vb5; have zvb6 := fun z : Wd (Below X.heap.size X) => cl z.h vb6; have zvb7 := fun z : Wd (Below X.heap.size X) => cl z.h vb7; have zc3 := fun z : Wd (Below X.heap.size X) => cl z.h c3); (repeat (any_goals (first | go_big_quiet_step (((first | fail))) | (refine wpQuiet_step (fun K hK => ?_); go_simp; (first | (refine hK _ ?_; clear hK K) | (split <;> rename_i hg <;> (refine hK _ ?_; clear hK K) <;> (try simp only [Bool.not_eq_true] at hg) <;> (first | simp only [Int.not_lt.2 hg, decide_false] | simp only [Int.not_le.1 hg, decide_true] | simp only [hg, decide_true, decide_false] | skip)))))));  all_goals (refine wpQuiet_nil ?_; intro wq hgq))
        replace hT := hT.trans (hgq.mono hT.size)
        replace HSR := Lib.hid (HSR.out.on hgq)
        (have hzhgq := hgq.size; replace qa0 := cl hgq qa0; replace qa1 := cl hgq qa1; replace qa2 := cl hgq qa2; replace qa3 := cl hgq qa3; replace qa4 := cl hgq qa4; replace qa5 := cl hgq qa5; replace qa6 := cl hgq qa6; replace vb0 := cl hgq vb0; replace vb1 := cl hgq vb1; replace vb2 := cl hgq vb2; replace vb3 := cl hgq vb3; replace vb4 := cl hgq vb4; replace vb5 := cl hgq vb5; replace vb6 := cl hgq vb6; replace vb7 := cl hgq vb7)
        have hg17 : w.heap.size < wq.heap.size := by omega
        have hg17b : W.heap.size < wq.heap.size := by omega
        clear hl hXb zc3 zqa0 zqa1 zqa2 zqa3 zqa4 zqa5 zqa6 zvb0 zvb1 zvb2 zvb3 zvb4 zvb5 zvb6 zvb7
        cases hh : hasS sb.prods name
        case false =>
          have HH := Lib.hid hh
          rw [hh] at HCK
          clear hh
          go_wp2_with (go_at_call 98; refine (has_any v.Ap v.np v.cp sb.prods name _ HSR.out.p).mono ?_; rw [HH.out]; rintro r w' ⟨rfl, rfl⟩)
          have HQ := Lib.hid (HCK.out.trans (if_neg (by decide)))
          go_ret
          exact ⟨ret_int HQ.out.symm, hT⟩
        case true =>
          have HH := Lib.hid hh
          rw [hh] at HCK
          clear hh
          go_wp2_with (go_at_call 98; refine (has_any v.Ap v.np v.cp sb.prods name _ HSR.out.p).mono ?_; rw [HH.out]; rintro r w' ⟨rfl, rfl⟩)
          have HQ := Lib.hid (HCK.out.trans (if_pos (by simp)))
          go_ret
          exact ⟨ret_int HQ.out.symm, hT⟩
    · have c5 : (K == 5) = false := by rw [beq_eq_false_iff_ne]; exact m5
      have c6 : (K == 6) = false := by rw [beq_eq_false_iff_ne]; exact m6
      have c8 : (K == 8) = false := by rw [beq_eq_false_iff_ne]; exact m8
      have c9 : (K == 9) = false := by rw [beq_eq_false_iff_ne]; exact m9
      have HCK := Lib.hid (show checkP s ⟨at_, K, acc, sub, num, name, val⟩ = chgE sb K by have := HK.out; unfold checkP; dsimp only; rw [if_neg (by omega), if_neg (by omega), HSUB.out]; dsimp only; rw [if_neg m5, if_neg m6, if_neg m8, if_neg m9])
      clear m5 m6 m8 m9
      clear HSUB HOW HK
      cases ow
      case none =>
        have hl := fun z : Wd (Below X.heap.size X) => (HMO.out.below (hXb.trans (z.h.mono hXb.size))).run_ok keyS Try.underlying108 (zeroI _) (kS hnm) (v := .int .i64 0) (c := false) (by rw [hfo]; rfl) (by rw [hfo]; rfl)
        clear hfo
        ((with_reducible refine wp_region_class (Below X.heap.size X) ?_ ?_ ?_ ?_); kernel_rfl; kernel_rfl; (exact (Below.refl _ _).drew); (intro hnonemp); (have zqa0 := fun z : Wd (Below X.heap.size X) => cl z.h qa0; have zqa1 := fun z : Wd (Below X.heap.size X) => cl z.h qa1; have zqa2 := fun z : Wd (Below X.heap.size X) => cl z.h qa2; have zqa3 := fun z : Wd (Below X.heap.size X) => cl z.h qa3; have zqa4 := fun z : Wd (Below X.heap.size X) => cl z.h qa4; have zqa5 := fun z : Wd (Below X.heap.size X) => cl z.h qa5; have zqa6 := fun z : Wd (Below X.heap.size X) => cl z.h qa6; have zvb0 := fun z : Wd (Below X.heap.size X) => cl z.h vb0; have zvb1 := fun z : Wd (Below X.heap.size X) => cl z.h vb1; have zvb2 := fun z : Wd (Below X.heap.size X) => cl z.h vb2; have zvb3 := fun z : Wd (Below X.heap.size X) => cl z.h vb3; have zvb4 := fun z : Wd (Below X.heap.size X) => cl z.h vb4; have zvb5 := fun z : Wd (Below X.heap.size X) => cl z.h vb5; have zvb6 := fun z : Wd (Below X.heap.size X) => cl z.h vb6; have zvb7 := fun z : Wd (Below X.heap.size X) => cl z.h vb7; have zc3 := fun z : Wd (Below X.heap.size X) => cl z.h c3); (repeat (any_goals (first | go_big_quiet_step (((first | fail))) | (refine wpQuiet_step (fun K hK => ?_); go_simp; (first | (refine hK _ ?_; clear hK K) | (split <;> rename_i hg <;> (refine hK _ ?_; clear hK K) <;> (try simp only [Bool.not_eq_true] at hg) <;> (first | simp only [Int.not_lt.2 hg, decide_false] | simp only [Int.not_le.1 hg, decide_true] | simp only [hg, decide_true, decide_false] | skip)))))));  all_goals (refine wpQuiet_nil ?_; intro wq hgq))
        replace hT := hT.trans (hgq.mono hT.size)
        replace HSR := Lib.hid (HSR.out.on hgq)
        (have hzhgq := hgq.size; replace qa0 := cl hgq qa0; replace qa1 := cl hgq qa1; replace qa2 := cl hgq qa2; replace qa3 := cl hgq qa3; replace qa4 := cl hgq qa4; replace qa5 := cl hgq qa5; replace qa6 := cl hgq qa6; replace vb0 := cl hgq vb0; replace vb1 := cl hgq vb1; replace vb2 := cl hgq vb2; replace vb3 := cl hgq vb3; replace vb4 := cl hgq vb4; replace vb5 := cl hgq vb5; replace vb6 := cl hgq vb6; replace vb7 := cl hgq vb7)
        have hg17 : w.heap.size < wq.heap.size := by omega
        have hg17b : W.heap.size < wq.heap.size := by omega
        clear hl hXb zc3 zqa0 zqa1 zqa2 zqa3 zqa4 zqa5 zqa6 zvb0 zvb1 zvb2 zvb3 zvb4 zvb5 zvb6 zvb7
        go_wp2_with fail
        refine (changes_any v K sb HSR.out.susp HSR.out.fam _).mono ?_
        rintro r w2 ⟨rfl, hb2⟩
        replace hT := hT.trans (hb2.mono hT.size)
        clear hb2
        have HQ := HCK
        go_wp2_with fail
        go_ret
        exact ⟨ret_int HQ.out.symm, hT⟩
      case some =>
        rename_i ow
        have hl := fun z : Wd (Below X.heap.size X) => (HMO.out.below (hXb.trans (z.h.mono hXb.size))).run_ok keyS Try.underlying108 (zeroI _) (kS hnm) (v := .int .i64 ow) (c := true) (by rw [hfo]; rfl) (by rw [hfo]; rfl)
        clear hfo
        ((with_reducible refine wp_region_class (Below X.heap.size X) ?_ ?_ ?_ ?_); kernel_rfl; kernel_rfl; (exact (Below.refl _ _).drew); (intro hnonemp); (have zqa0 := fun z : Wd (Below X.heap.size X) => cl z.h qa0; have zqa1 := fun z : Wd (Below X.heap.size X) => cl z.h qa1; have zqa2 := fun z : Wd (Below X.heap.size X) => cl z.h qa2; have zqa3 := fun z : Wd (Below X.heap.size X) => cl z.h qa3; have zqa4 := fun z : Wd (Below X.heap.size X) => cl z.h qa4; have zqa5 := fun z : Wd (Below X.heap.size X) => cl z.h qa5; have zqa6 := fun z : Wd (Below X.heap.size X) => cl z.h qa6; have zvb0 := fun z : Wd (Below X.heap.size X) => cl z.h vb0; have zvb1 := fun z : Wd (Below X.heap.size X) => cl z.h vb1; have zvb2 := fun z : Wd (Below X.heap.size X) => cl z.h vb2; have zvb3 := fun z : Wd (Below X.heap.size X) => cl z.h vb3; have zvb4 := fun z : Wd (Below X.heap.size X) => cl z.h vb4; have zvb5 := fun z : Wd (Below X.heap.size X) => cl z.h vb5; have zvb6 := fun z : Wd (Below X.heap.size X) => cl z.h vb6; have zvb7 := fun z : Wd (Below X.heap.size X) => cl z.h vb7; have zc3 := fun z : Wd (Below X.heap.size X) => cl z.h c3); (repeat (any_goals (first | go_big_quiet_step (((first | fail))) | (refine wpQuiet_step (fun K hK => ?_); go_simp; (first | (refine hK _ ?_; clear hK K) | (split <;> rename_i hg <;> (refine hK _ ?_; clear hK K) <;> (try simp only [Bool.not_eq_true] at hg) <;> (first | simp only [Int.not_lt.2 hg, decide_false] | simp only [Int.not_le.1 hg, decide_true] | simp only [hg, decide_true, decide_false] | skip)))))));  all_goals (refine wpQuiet_nil ?_; intro wq hgq))
        replace hT := hT.trans (hgq.mono hT.size)
        replace HSR := Lib.hid (HSR.out.on hgq)
        (have hzhgq := hgq.size; replace qa0 := cl hgq qa0; replace qa1 := cl hgq qa1; replace qa2 := cl hgq qa2; replace qa3 := cl hgq qa3; replace qa4 := cl hgq qa4; replace qa5 := cl hgq qa5; replace qa6 := cl hgq qa6; replace vb0 := cl hgq vb0; replace vb1 := cl hgq vb1; replace vb2 := cl hgq vb2; replace vb3 := cl hgq vb3; replace vb4 := cl hgq vb4; replace vb5 := cl hgq vb5; replace vb6 := cl hgq vb6; replace vb7 := cl hgq vb7)
        have hg17 : w.heap.size < wq.heap.size := by omega
        have hg17b : W.heap.size < wq.heap.size := by omega
        clear hl hXb zc3 zqa0 zqa1 zqa2 zqa3 zqa4 zqa5 zqa6 zvb0 zvb1 zvb2 zvb3 zvb4 zvb5 zvb6 zvb7
        go_wp2_with fail
        refine (changes_any v K sb HSR.out.susp HSR.out.fam _).mono ?_
        rintro r w2 ⟨rfl, hb2⟩
        replace hT := hT.trans (hb2.mono hT.size)
        clear hb2
        have HQ := HCK
        go_wp2_with fail
        go_ret
        exact ⟨ret_int HQ.out.symm, hT⟩
end Cu
end Go.Proofs.Yteaanngagcflhaa
