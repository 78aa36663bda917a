/-
  Checker: the bodies on expressions and on ladders. No condition.
-/
import Derived.Test.YtcifbjgomflanaaCkB
import Derived.BigQuiet
import Derived.StillTailTactics
import Derived.Lib.Overlaps
import Derived.Deep.DeepCutAuto
set_option maxRecDepth 100000
set_option linter.unusedVariables false
set_option linter.unusedSimpArgs false
namespace Go.Proofs.Ytcifbjgomflanaa
open Go.RowKit

namespace Ck
open Xp
set_option maxHeartbeats 4000000 in
theorem CheckerExprs_run (e : Ex) (x : It) (w : World) (h : Rp w e x) : Calls Try.prog 3 #[x.val] w fun r w' => r = .returned (.bool true) ∧ Below w.heap.size w w' := by
  obtain ⟨⟨s, y⟩, hs⟩ : ∃ p, srt 16 e = p := ⟨_, rfl⟩
  have HS := Lib.hid hs
  have HR := Lib.hid h
  clear h hs
  unfold It.val
  go_enter Try.func3, Try.ntmps3
  go_upto_region 1 with (fail)
  (obtain ⟨W, hWW, hbW, hzW, f1W, qfa⟩ := box1 w #[.int .i64 x.op, .int .i64 x.num, .string x.text, .slice x.A x.n x.c] 24; rw [← hWW]; have qa0 : W.cell? ⟨w.heap.size, 0, none⟩ = some (.int .i64 x.op) := f1W 0 _ rfl; have qa1 : W.cell? ⟨w.heap.size, 1, none⟩ = some (.int .i64 x.num) := f1W 1 _ rfl; have qa2 : W.cell? ⟨w.heap.size, 2, none⟩ = some (.string x.text) := f1W 2 _ rfl; have qa3 : W.cell? ⟨w.heap.size, 3, none⟩ = some (.slice x.A x.n x.c) := f1W 3 _ rfl; clear hWW f1W)
  have hT := hbW
  have HRW := Lib.hid (HR.out.on hbW)
  have hgW : w.heap.size < W.heap.size := hzW
  go_wp2_with fail
  refine (small_any HRW.out).mono ?_
  rintro r w1 ⟨⟨m, rfl⟩, hb1⟩
  (have hzhb1 := hb1.size; replace qa0 := (hb1.cell (p := ⟨_, _, none⟩) (by (try dsimp only) <;> omega)).trans qa0; replace qa1 := (hb1.cell (p := ⟨_, _, none⟩) (by (try dsimp only) <;> omega)).trans qa1; replace qa2 := (hb1.cell (p := ⟨_, _, none⟩) (by (try dsimp only) <;> omega)).trans qa2; replace qa3 := (hb1.cell (p := ⟨_, _, none⟩) (by (try dsimp only) <;> omega)).trans qa3; replace HRW := Lib.hid (HRW.out.on hb1); replace hT := Below.trans hT (Below.mono hb1 (by omega)))
  have hg1 : w.heap.size < w1.heap.size := by omega
  cases m
  · go_wp2_with fail
    refine (awake_any _).mono ?_
    rintro r w2 ⟨rfl, hb2⟩
    have hbE := hT.trans (hb2.mono (by omega))
    go_wp2_with fail
    go_ret
    exact ⟨rfl, hbE⟩
  · go_wp2_with fail
    refine (expr_s e x _ s y HS.out HRW.out).mono ?_
    rintro r w2 ⟨rfl, hb2⟩
    (have hzhb2 := hb2.size; replace qa0 := (hb2.cell (p := ⟨_, _, none⟩) (by (try dsimp only) <;> omega)).trans qa0; replace qa1 := (hb2.cell (p := ⟨_, _, none⟩) (by (try dsimp only) <;> omega)).trans qa1; replace qa2 := (hb2.cell (p := ⟨_, _, none⟩) (by (try dsimp only) <;> omega)).trans qa2; replace qa3 := (hb2.cell (p := ⟨_, _, none⟩) (by (try dsimp only) <;> omega)).trans qa3; replace HRW := Lib.hid (HRW.out.on hb2); replace hT := Below.trans hT (Below.mono hb2 (by omega)))
    have hg2 : w.heap.size < w2.heap.size := by omega
    go_wp2_with fail
    refine (refexpr_s e x _ s y HS.out HRW.out).mono ?_
    rintro r w3 ⟨rfl, hb3⟩
    (have hzhb3 := hb3.size; replace qa0 := (hb3.cell (p := ⟨_, _, none⟩) (by (try dsimp only) <;> omega)).trans qa0; replace qa1 := (hb3.cell (p := ⟨_, _, none⟩) (by (try dsimp only) <;> omega)).trans qa1; replace qa2 := (hb3.cell (p := ⟨_, _, none⟩) (by (try dsimp only) <;> omega)).trans qa2; replace qa3 := (hb3.cell (p := ⟨_, _, none⟩) (by (try dsimp only) <;> omega)).trans qa3; replace HRW := Lib.hid (HRW.out.on hb3); replace hT := Below.trans hT (Below.mono hb3 (by omega)))
    go_wp2_with fail
    refine (awake_any _).mono ?_
    rintro r w4 ⟨rfl, hb4⟩
    have hbE := hT.trans (hb4.mono (by omega))
    go_wp2_with fail
    go_ret
    exact ⟨ret_bool (by simp), hbE⟩
set_option maxHeartbeats 4000000 in
theorem CheckerSteps_run (A : Option Addr) (n c : Nat) (xs : List Stp) (w : World) (h : Sl w A n c xs) : Calls Try.prog 6 #[.slice A n c] w fun r w' => r = .returned (.bool true) ∧ Below w.heap.size w w' := by
  have hn := h.nmax
  have H := Lib.hid h
  clear h
  by_cases h100 : 100 < n
  · have h1 : (100 : Int) < (n : Int) := by omega
    go_enter Try.func6, Try.ntmps6
    go_wp2_with fail
    refine (awake_any _).mono ?_
    rintro r w2 ⟨rfl, hb2⟩
    go_wp2_with fail
    go_ret
    exact ⟨rfl, hb2⟩
  · have h1 : ¬ (100 : Int) < (n : Int) := by omega
    obtain ⟨m, hm⟩ : ∃ m, stepsE xs = m := ⟨_, rfl⟩
    have HM := Lib.hid hm
    clear hm
    go_enter Try.func6, Try.ntmps6
    go_wp2_with fail
    refine (steps_any A n c xs _ H.out).mono ?_
    rintro r w1 ⟨rfl, hb1⟩
    rw [HM.out]
    go_wp2_with fail
    refine (refsteps_any A n c xs _ (H.out.below hb1)).mono ?_
    rintro r w2 ⟨rfl, hb2⟩
    rw [HM.out]
    have hz := hb1.size
    have hT := hb1.trans (hb2.mono (by omega))
    go_wp2_with fail
    refine (awake_any _).mono ?_
    rintro r w3 ⟨rfl, hb3⟩
    have hz2 := hb2.size
    have hbE := hT.trans (hb3.mono (by omega))
    go_wp2_with fail
    go_ret
    exact ⟨ret_bool (by simp), hbE⟩
end Ck
end Go.Proofs.Ytcifbjgomflanaa
