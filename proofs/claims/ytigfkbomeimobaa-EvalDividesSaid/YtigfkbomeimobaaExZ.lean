/-
  Expressions: both answer the same. No condition.
-/
import Derived.Test.YtigfkbomeimobaaExY
import Derived.BigQuiet
import Derived.StillTailTactics
import Derived.Lib.Overlaps
import Derived.Deep.DeepCutAuto
import Derived.Deep.RegionWith
set_option maxRecDepth 100000
set_option linter.unusedVariables false
set_option linter.unusedSimpArgs false
namespace Go.Proofs.Ytigfkbomeimobaa
open Go.RowKit

namespace Xp
theorem topT_form (v : Env) (e : Ex) : ∃ (t : ByteArray) (b : Bool), topT v e = .tuple #[.string t, .bool b] := by
  unfold topT
  split
  · exact ⟨_, _, rfl⟩
  · exact ⟨_, _, rfl⟩

set_option maxHeartbeats 4000000 in
theorem EvalNumbers_run (v : Env) (e : Ex) (x : It) (w : World) (h : Rp w e x) : Calls Try.prog 3 #[x.val, v.val] w fun r w' => r = .returned (.bool true) ∧ Below w.heap.size w w' := by
  obtain ⟨op, num, text, args, A, n, c, items, rfl, rfl, hsl, hil, hnil, hch⟩ := h.inv
  have HR := Lib.hid h
  clear h hsl hil hch hnil
  unfold It.val Env.val
  have hov : optV none = .tuple #[.int .i64 0, .bool false] := rfl
  have hov2 : ∀ x : Int, optV (some x) = .tuple #[.int .i64 x, .bool true] := fun _ => rfl
  go_enter Try.func3, Try.ntmps3
  go_upto_region 1 with (fail)
  (obtain ⟨W, hWW, hbW, hzW, f1W, f2W, qfa, qfb⟩ := box2 w #[.int .i64 op, .int .i64 num, .string text, .slice A n c] 24 #[.int .i64 v.kind, .int .i64 v.units, .int .i64 v.weekday, .int .i64 v.minute, .int .i64 v.total, .int .i64 v.spent, .string v.zone, .string v.band, .bool v.family] 26; rw [← hWW]; have qa0 : W.cell? ⟨w.heap.size, 0, none⟩ = some (.int .i64 op) := f1W 0 _ rfl; have qa1 : W.cell? ⟨w.heap.size, 1, none⟩ = some (.int .i64 num) := f1W 1 _ rfl; have qa2 : W.cell? ⟨w.heap.size, 2, none⟩ = some (.string text) := f1W 2 _ rfl; have qa3 : W.cell? ⟨w.heap.size, 3, none⟩ = some (.slice A n c) := f1W 3 _ rfl; have qb0 : W.cell? ⟨w.heap.size + 1, 0, none⟩ = some (.int .i64 v.kind) := f2W 0 _ rfl; have qb1 : W.cell? ⟨w.heap.size + 1, 1, none⟩ = some (.int .i64 v.units) := f2W 1 _ rfl; have qb2 : W.cell? ⟨w.heap.size + 1, 2, none⟩ = some (.int .i64 v.weekday) := f2W 2 _ rfl; have qb3 : W.cell? ⟨w.heap.size + 1, 3, none⟩ = some (.int .i64 v.minute) := f2W 3 _ rfl; have qb4 : W.cell? ⟨w.heap.size + 1, 4, none⟩ = some (.int .i64 v.total) := f2W 4 _ rfl; have qb5 : W.cell? ⟨w.heap.size + 1, 5, none⟩ = some (.int .i64 v.spent) := f2W 5 _ rfl; have qb6 : W.cell? ⟨w.heap.size + 1, 6, none⟩ = some (.string v.zone) := f2W 6 _ rfl; have qb7 : W.cell? ⟨w.heap.size + 1, 7, none⟩ = some (.string v.band) := f2W 7 _ rfl; have qb8 : W.cell? ⟨w.heap.size + 1, 8, none⟩ = some (.bool v.family) := f2W 8 _ rfl; clear hWW f1W f2W)
  have HRW := Lib.hid (HR.out.on hbW)
  have hgW : w.heap.size + 1 < W.heap.size := hzW
  have hgW0 : w.heap.size < W.heap.size := by omega
  go_wp2_with fail
  refine (small_any HRW.out).mono ?_
  rintro r w1 ⟨⟨m, rfl⟩, hb1⟩
  (have hzhb1 := hb1.size; replace qa0 := (hb1.cell (p := ⟨_, _, none⟩) (by (try dsimp only) <;> omega)).trans qa0; replace qa1 := (hb1.cell (p := ⟨_, _, none⟩) (by (try dsimp only) <;> omega)).trans qa1; replace qa2 := (hb1.cell (p := ⟨_, _, none⟩) (by (try dsimp only) <;> omega)).trans qa2; replace qa3 := (hb1.cell (p := ⟨_, _, none⟩) (by (try dsimp only) <;> omega)).trans qa3; replace qb0 := (hb1.cell (p := ⟨_, _, none⟩) (by (try dsimp only) <;> omega)).trans qb0; replace qb1 := (hb1.cell (p := ⟨_, _, none⟩) (by (try dsimp only) <;> omega)).trans qb1; replace qb2 := (hb1.cell (p := ⟨_, _, none⟩) (by (try dsimp only) <;> omega)).trans qb2; replace qb3 := (hb1.cell (p := ⟨_, _, none⟩) (by (try dsimp only) <;> omega)).trans qb3; replace qb4 := (hb1.cell (p := ⟨_, _, none⟩) (by (try dsimp only) <;> omega)).trans qb4; replace qb5 := (hb1.cell (p := ⟨_, _, none⟩) (by (try dsimp only) <;> omega)).trans qb5; replace qb6 := (hb1.cell (p := ⟨_, _, none⟩) (by (try dsimp only) <;> omega)).trans qb6; replace qb7 := (hb1.cell (p := ⟨_, _, none⟩) (by (try dsimp only) <;> omega)).trans qb7; replace qb8 := (hb1.cell (p := ⟨_, _, none⟩) (by (try dsimp only) <;> omega)).trans qb8; replace HRW := Lib.hid (HRW.out.on hb1); replace hbW := Below.trans hbW (Below.mono hb1 (by omega)))
  have hgW1 : w.heap.size + 1 < w1.heap.size := by omega
  have hgX1 : w.heap.size < w1.heap.size := by omega
  cases m
  · go_wp2_with fail
    refine (awake_any _).mono ?_
    rintro r w2 ⟨rfl, hb2⟩
    have hbE := hbW.trans (hb2.mono (by omega))
    go_wp2_with fail
    go_ret
    exact ⟨rfl, hbE⟩
  · go_wp2_with fail
    obtain ⟨rr, hrr⟩ : ∃ rr, topN v (.mk op num text args) = rr := ⟨_, rfl⟩
    have HRR := Lib.hid hrr
    clear hrr
    refine (Number_top v (.mk op num text args) ⟨op, num, text, A, n, c⟩ _ HRW.out).mono ?_
    rw [HRR.out]
    rintro r w2 ⟨rfl, hb2⟩
    (have hzhb2 := hb2.size; replace qa0 := (hb2.cell (p := ⟨_, _, none⟩) (by (try dsimp only) <;> omega)).trans qa0; replace qa1 := (hb2.cell (p := ⟨_, _, none⟩) (by (try dsimp only) <;> omega)).trans qa1; replace qa2 := (hb2.cell (p := ⟨_, _, none⟩) (by (try dsimp only) <;> omega)).trans qa2; replace qa3 := (hb2.cell (p := ⟨_, _, none⟩) (by (try dsimp only) <;> omega)).trans qa3; replace qb0 := (hb2.cell (p := ⟨_, _, none⟩) (by (try dsimp only) <;> omega)).trans qb0; replace qb1 := (hb2.cell (p := ⟨_, _, none⟩) (by (try dsimp only) <;> omega)).trans qb1; replace qb2 := (hb2.cell (p := ⟨_, _, none⟩) (by (try dsimp only) <;> omega)).trans qb2; replace qb3 := (hb2.cell (p := ⟨_, _, none⟩) (by (try dsimp only) <;> omega)).trans qb3; replace qb4 := (hb2.cell (p := ⟨_, _, none⟩) (by (try dsimp only) <;> omega)).trans qb4; replace qb5 := (hb2.cell (p := ⟨_, _, none⟩) (by (try dsimp only) <;> omega)).trans qb5; replace qb6 := (hb2.cell (p := ⟨_, _, none⟩) (by (try dsimp only) <;> omega)).trans qb6; replace qb7 := (hb2.cell (p := ⟨_, _, none⟩) (by (try dsimp only) <;> omega)).trans qb7; replace qb8 := (hb2.cell (p := ⟨_, _, none⟩) (by (try dsimp only) <;> omega)).trans qb8; replace HRW := Lib.hid (HRW.out.on hb2); replace hbW := Below.trans hbW (Below.mono hb2 (by omega)))
    have hgW2 : w.heap.size + 1 < w2.heap.size := by omega
    have hgX2 : w.heap.size < w2.heap.size := by omega
    cases rr
    all_goals
      unfold optV
      go_wp2_with fail
      refine (refNumber_top v (.mk op num text args) ⟨op, num, text, A, n, c⟩ _ HRW.out).mono ?_
      rw [HRR.out]
      rintro r w3 ⟨rfl, hb3⟩
      (have hzhb3 := hb3.size; replace hbW := Below.trans hbW (Below.mono hb3 (by omega)))
      unfold optV
      go_wp2_with fail
      refine (awake_any _).mono ?_
      rintro r w4 ⟨rfl, hb4⟩
      have hbE := hbW.trans (hb4.mono (by omega))
      go_wp2_with fail
      go_ret
      exact ⟨rfl, hbE⟩

set_option maxHeartbeats 4000000 in
theorem EvalTexts_run (v : Env) (e : Ex) (x : It) (w : World) (h : Rp w e x) : Calls Try.prog 4 #[x.val, v.val] w fun r w' => r = .returned (.bool true) ∧ Below w.heap.size w w' := by
  obtain ⟨op, num, text, args, A, n, c, items, rfl, rfl, hsl, hil, hnil, hch⟩ := h.inv
  have HR := Lib.hid h
  clear h hsl hil hch hnil
  unfold It.val Env.val
  have hov : optV none = .tuple #[.int .i64 0, .bool false] := rfl
  have hov2 : ∀ x : Int, optV (some x) = .tuple #[.int .i64 x, .bool true] := fun _ => rfl
  go_enter Try.func4, Try.ntmps4
  go_upto_region 1 with (fail)
  (obtain ⟨W, hWW, hbW, hzW, f1W, f2W, qfa, qfb⟩ := box2 w #[.int .i64 op, .int .i64 num, .string text, .slice A n c] 24 #[.int .i64 v.kind, .int .i64 v.units, .int .i64 v.weekday, .int .i64 v.minute, .int .i64 v.total, .int .i64 v.spent, .string v.zone, .string v.band, .bool v.family] 26; rw [← hWW]; have qa0 : W.cell? ⟨w.heap.size, 0, none⟩ = some (.int .i64 op) := f1W 0 _ rfl; have qa1 : W.cell? ⟨w.heap.size, 1, none⟩ = some (.int .i64 num) := f1W 1 _ rfl; have qa2 : W.cell? ⟨w.heap.size, 2, none⟩ = some (.string text) := f1W 2 _ rfl; have qa3 : W.cell? ⟨w.heap.size, 3, none⟩ = some (.slice A n c) := f1W 3 _ rfl; have qb0 : W.cell? ⟨w.heap.size + 1, 0, none⟩ = some (.int .i64 v.kind) := f2W 0 _ rfl; have qb1 : W.cell? ⟨w.heap.size + 1, 1, none⟩ = some (.int .i64 v.units) := f2W 1 _ rfl; have qb2 : W.cell? ⟨w.heap.size + 1, 2, none⟩ = some (.int .i64 v.weekday) := f2W 2 _ rfl; have qb3 : W.cell? ⟨w.heap.size + 1, 3, none⟩ = some (.int .i64 v.minute) := f2W 3 _ rfl; have qb4 : W.cell? ⟨w.heap.size + 1, 4, none⟩ = some (.int .i64 v.total) := f2W 4 _ rfl; have qb5 : W.cell? ⟨w.heap.size + 1, 5, none⟩ = some (.int .i64 v.spent) := f2W 5 _ rfl; have qb6 : W.cell? ⟨w.heap.size + 1, 6, none⟩ = some (.string v.zone) := f2W 6 _ rfl; have qb7 : W.cell? ⟨w.heap.size + 1, 7, none⟩ = some (.string v.band) := f2W 7 _ rfl; have qb8 : W.cell? ⟨w.heap.size + 1, 8, none⟩ = some (.bool v.family) := f2W 8 _ rfl; clear hWW f1W f2W)
  have HRW := Lib.hid (HR.out.on hbW)
  have hgW : w.heap.size + 1 < W.heap.size := hzW
  have hgW0 : w.heap.size < W.heap.size := by omega
  go_wp2_with fail
  refine (small_any HRW.out).mono ?_
  rintro r w1 ⟨⟨m, rfl⟩, hb1⟩
  (have hzhb1 := hb1.size; replace qa0 := (hb1.cell (p := ⟨_, _, none⟩) (by (try dsimp only) <;> omega)).trans qa0; replace qa1 := (hb1.cell (p := ⟨_, _, none⟩) (by (try dsimp only) <;> omega)).trans qa1; replace qa2 := (hb1.cell (p := ⟨_, _, none⟩) (by (try dsimp only) <;> omega)).trans qa2; replace qa3 := (hb1.cell (p := ⟨_, _, none⟩) (by (try dsimp only) <;> omega)).trans qa3; replace qb0 := (hb1.cell (p := ⟨_, _, none⟩) (by (try dsimp only) <;> omega)).trans qb0; replace qb1 := (hb1.cell (p := ⟨_, _, none⟩) (by (try dsimp only) <;> omega)).trans qb1; replace qb2 := (hb1.cell (p := ⟨_, _, none⟩) (by (try dsimp only) <;> omega)).trans qb2; replace qb3 := (hb1.cell (p := ⟨_, _, none⟩) (by (try dsimp only) <;> omega)).trans qb3; replace qb4 := (hb1.cell (p := ⟨_, _, none⟩) (by (try dsimp only) <;> omega)).trans qb4; replace qb5 := (hb1.cell (p := ⟨_, _, none⟩) (by (try dsimp only) <;> omega)).trans qb5; replace qb6 := (hb1.cell (p := ⟨_, _, none⟩) (by (try dsimp only) <;> omega)).trans qb6; replace qb7 := (hb1.cell (p := ⟨_, _, none⟩) (by (try dsimp only) <;> omega)).trans qb7; replace qb8 := (hb1.cell (p := ⟨_, _, none⟩) (by (try dsimp only) <;> omega)).trans qb8; replace HRW := Lib.hid (HRW.out.on hb1); replace hbW := Below.trans hbW (Below.mono hb1 (by omega)))
  have hgW1 : w.heap.size + 1 < w1.heap.size := by omega
  have hgX1 : w.heap.size < w1.heap.size := by omega
  cases m
  · go_wp2_with fail
    refine (awake_any _).mono ?_
    rintro r w2 ⟨rfl, hb2⟩
    have hbE := hbW.trans (hb2.mono (by omega))
    go_wp2_with fail
    go_ret
    exact ⟨rfl, hbE⟩
  · go_wp2_with fail
    obtain ⟨t, b, hrr⟩ := topT_form v (.mk op num text args)
    have HRR := Lib.hid hrr
    clear hrr
    refine (Text_top v (.mk op num text args) ⟨op, num, text, A, n, c⟩ _ HRW.out).mono ?_
    rw [HRR.out]
    rintro r w2 ⟨rfl, hb2⟩
    (have hzhb2 := hb2.size; replace qa0 := (hb2.cell (p := ⟨_, _, none⟩) (by (try dsimp only) <;> omega)).trans qa0; replace qa1 := (hb2.cell (p := ⟨_, _, none⟩) (by (try dsimp only) <;> omega)).trans qa1; replace qa2 := (hb2.cell (p := ⟨_, _, none⟩) (by (try dsimp only) <;> omega)).trans qa2; replace qa3 := (hb2.cell (p := ⟨_, _, none⟩) (by (try dsimp only) <;> omega)).trans qa3; replace qb0 := (hb2.cell (p := ⟨_, _, none⟩) (by (try dsimp only) <;> omega)).trans qb0; replace qb1 := (hb2.cell (p := ⟨_, _, none⟩) (by (try dsimp only) <;> omega)).trans qb1; replace qb2 := (hb2.cell (p := ⟨_, _, none⟩) (by (try dsimp only) <;> omega)).trans qb2; replace qb3 := (hb2.cell (p := ⟨_, _, none⟩) (by (try dsimp only) <;> omega)).trans qb3; replace qb4 := (hb2.cell (p := ⟨_, _, none⟩) (by (try dsimp only) <;> omega)).trans qb4; replace qb5 := (hb2.cell (p := ⟨_, _, none⟩) (by (try dsimp only) <;> omega)).trans qb5; replace qb6 := (hb2.cell (p := ⟨_, _, none⟩) (by (try dsimp only) <;> omega)).trans qb6; replace qb7 := (hb2.cell (p := ⟨_, _, none⟩) (by (try dsimp only) <;> omega)).trans qb7; replace qb8 := (hb2.cell (p := ⟨_, _, none⟩) (by (try dsimp only) <;> omega)).trans qb8; replace HRW := Lib.hid (HRW.out.on hb2); replace hbW := Below.trans hbW (Below.mono hb2 (by omega)))
    have hgW2 : w.heap.size + 1 < w2.heap.size := by omega
    have hgX2 : w.heap.size < w2.heap.size := by omega
    cases b
    all_goals
      go_wp2_with fail
      refine (refText_top v (.mk op num text args) ⟨op, num, text, A, n, c⟩ _ HRW.out).mono ?_
      rw [HRR.out]
      rintro r w3 ⟨rfl, hb3⟩
      (have hzhb3 := hb3.size; replace hbW := Below.trans hbW (Below.mono hb3 (by omega)))
      go_wp2_with fail
      refine (awake_any _).mono ?_
      rintro r w4 ⟨rfl, hb4⟩
      have hbE := hbW.trans (hb4.mono (by omega))
      go_wp2_with fail
      go_ret
      exact ⟨rfl, hbE⟩

set_option maxHeartbeats 4000000 in
theorem EvalHolds_run (v : Env) (e : Ex) (x : It) (w : World) (h : Rp w e x) : Calls Try.prog 5 #[x.val, v.val] w fun r w' => r = .returned (.bool true) ∧ Below w.heap.size w w' := by
  obtain ⟨op, num, text, args, A, n, c, items, rfl, rfl, hsl, hil, hnil, hch⟩ := h.inv
  have HR := Lib.hid h
  clear h hsl hil hch hnil
  unfold It.val Env.val
  have hov : optV none = .tuple #[.int .i64 0, .bool false] := rfl
  have hov2 : ∀ x : Int, optV (some x) = .tuple #[.int .i64 x, .bool true] := fun _ => rfl
  go_enter Try.func5, Try.ntmps5
  go_upto_region 1 with (fail)
  (obtain ⟨W, hWW, hbW, hzW, f1W, f2W, qfa, qfb⟩ := box2 w #[.int .i64 op, .int .i64 num, .string text, .slice A n c] 24 #[.int .i64 v.kind, .int .i64 v.units, .int .i64 v.weekday, .int .i64 v.minute, .int .i64 v.total, .int .i64 v.spent, .string v.zone, .string v.band, .bool v.family] 26; rw [← hWW]; have qa0 : W.cell? ⟨w.heap.size, 0, none⟩ = some (.int .i64 op) := f1W 0 _ rfl; have qa1 : W.cell? ⟨w.heap.size, 1, none⟩ = some (.int .i64 num) := f1W 1 _ rfl; have qa2 : W.cell? ⟨w.heap.size, 2, none⟩ = some (.string text) := f1W 2 _ rfl; have qa3 : W.cell? ⟨w.heap.size, 3, none⟩ = some (.slice A n c) := f1W 3 _ rfl; have qb0 : W.cell? ⟨w.heap.size + 1, 0, none⟩ = some (.int .i64 v.kind) := f2W 0 _ rfl; have qb1 : W.cell? ⟨w.heap.size + 1, 1, none⟩ = some (.int .i64 v.units) := f2W 1 _ rfl; have qb2 : W.cell? ⟨w.heap.size + 1, 2, none⟩ = some (.int .i64 v.weekday) := f2W 2 _ rfl; have qb3 : W.cell? ⟨w.heap.size + 1, 3, none⟩ = some (.int .i64 v.minute) := f2W 3 _ rfl; have qb4 : W.cell? ⟨w.heap.size + 1, 4, none⟩ = some (.int .i64 v.total) := f2W 4 _ rfl; have qb5 : W.cell? ⟨w.heap.size + 1, 5, none⟩ = some (.int .i64 v.spent) := f2W 5 _ rfl; have qb6 : W.cell? ⟨w.heap.size + 1, 6, none⟩ = some (.string v.zone) := f2W 6 _ rfl; have qb7 : W.cell? ⟨w.heap.size + 1, 7, none⟩ = some (.string v.band) := f2W 7 _ rfl; have qb8 : W.cell? ⟨w.heap.size + 1, 8, none⟩ = some (.bool v.family) := f2W 8 _ rfl; clear hWW f1W f2W)
  have HRW := Lib.hid (HR.out.on hbW)
  have hgW : w.heap.size + 1 < W.heap.size := hzW
  have hgW0 : w.heap.size < W.heap.size := by omega
  go_wp2_with fail
  refine (small_any HRW.out).mono ?_
  rintro r w1 ⟨⟨m, rfl⟩, hb1⟩
  (have hzhb1 := hb1.size; replace qa0 := (hb1.cell (p := ⟨_, _, none⟩) (by (try dsimp only) <;> omega)).trans qa0; replace qa1 := (hb1.cell (p := ⟨_, _, none⟩) (by (try dsimp only) <;> omega)).trans qa1; replace qa2 := (hb1.cell (p := ⟨_, _, none⟩) (by (try dsimp only) <;> omega)).trans qa2; replace qa3 := (hb1.cell (p := ⟨_, _, none⟩) (by (try dsimp only) <;> omega)).trans qa3; replace qb0 := (hb1.cell (p := ⟨_, _, none⟩) (by (try dsimp only) <;> omega)).trans qb0; replace qb1 := (hb1.cell (p := ⟨_, _, none⟩) (by (try dsimp only) <;> omega)).trans qb1; replace qb2 := (hb1.cell (p := ⟨_, _, none⟩) (by (try dsimp only) <;> omega)).trans qb2; replace qb3 := (hb1.cell (p := ⟨_, _, none⟩) (by (try dsimp only) <;> omega)).trans qb3; replace qb4 := (hb1.cell (p := ⟨_, _, none⟩) (by (try dsimp only) <;> omega)).trans qb4; replace qb5 := (hb1.cell (p := ⟨_, _, none⟩) (by (try dsimp only) <;> omega)).trans qb5; replace qb6 := (hb1.cell (p := ⟨_, _, none⟩) (by (try dsimp only) <;> omega)).trans qb6; replace qb7 := (hb1.cell (p := ⟨_, _, none⟩) (by (try dsimp only) <;> omega)).trans qb7; replace qb8 := (hb1.cell (p := ⟨_, _, none⟩) (by (try dsimp only) <;> omega)).trans qb8; replace HRW := Lib.hid (HRW.out.on hb1); replace hbW := Below.trans hbW (Below.mono hb1 (by omega)))
  have hgW1 : w.heap.size + 1 < w1.heap.size := by omega
  have hgX1 : w.heap.size < w1.heap.size := by omega
  cases m
  · go_wp2_with fail
    refine (awake_any _).mono ?_
    rintro r w2 ⟨rfl, hb2⟩
    have hbE := hbW.trans (hb2.mono (by omega))
    go_wp2_with fail
    go_ret
    exact ⟨rfl, hbE⟩
  · obtain ⟨b, hrr⟩ : ∃ b, topH v (.mk op num text args) = b := ⟨_, rfl⟩
    have HRR := Lib.hid hrr
    clear hrr
    cases b
    · go_wp2_with fail
      ((with_reducible refine region_trees ([]) ?_ ?_ ?_ ?_ ?_); kernel_rfl; kernel_rfl; rfl; rfl; intro hnonemp hcr; (repeat (first | (refine mix_plain rfl rfl rfl ?_; (first | go_big_quiet_skip | (go_big_quiet_want; go_big_quiet_op; go_big_quiet_on)); refine wpQuiet_nil ?_) | (refine call_skip rfl rfl (by simp only [Act.put, List.setIfInBounds_toArray, List.set_cons_succ, List.set_cons_zero]; rfl) ?_) | (refine call_at 11 rfl ?_; (refine call_one (.bool false) Try.func16 (by kernel_rfl) rfl rfl rfl rfl (by simp only [Act.put, List.setIfInBounds_toArray, List.set_cons_succ, List.set_cons_zero]; rfl) (fun z vals hv => ?_) ?_; (have hc := Holds_top v _ ⟨op, num, text, A, n, c⟩ z.w (HRW.out.on z.h); rw [HRR.out] at hc; exact ⟨_, (by first | (simp [ev, Act.eval, Env.val] <;> rfl) | (simp [ev, Act.eval, It.val, Env.val]; done)), hc⟩))) | (refine call_at 14 rfl ?_; (refine call_one (.bool false) Try.func17 (by kernel_rfl) rfl rfl rfl rfl (by simp only [Act.put, List.setIfInBounds_toArray, List.set_cons_succ, List.set_cons_zero]; rfl) (fun z vals hv => ?_) ?_; (have hc := refHolds_top v _ ⟨op, num, text, A, n, c⟩ z.w (HRW.out.on z.h); rw [HRR.out] at hc; exact ⟨_, (by first | (simp [ev, Act.eval, Env.val] <;> rfl) | (simp [ev, Act.eval, It.val, Env.val]; done)), hc⟩))) | (refine call_at 17 rfl ?_; (refine call_one (.bool true) Try.func11 (by kernel_rfl) rfl rfl rfl rfl (by simp only [Act.put, List.setIfInBounds_toArray, List.set_cons_succ, List.set_cons_zero]; rfl) (fun z vals hv => ?_) ?_; (exact ⟨_, (by first | (simp [ev, Act.eval] <;> rfl) | (simp [ev, Act.eval, It.val]; done)), awake_any z.w⟩))))); intro wq vals hgq; simp only [over, Nt, List.map_cons, List.map_nil, List.foldl_cons, List.foldl_nil, Act.put, List.setIfInBounds_toArray, List.set_cons_succ, List.set_cons_zero]; clear hcr)
      have hbE := hbW.trans (hgq.mono (by omega))
      go_wp2_with fail
      go_ret
      exact ⟨rfl, hbE⟩
    · go_wp2_with fail
      ((with_reducible refine region_trees ([]) ?_ ?_ ?_ ?_ ?_); kernel_rfl; kernel_rfl; rfl; rfl; intro hnonemp hcr; (repeat (first | (refine mix_plain rfl rfl rfl ?_; (first | go_big_quiet_skip | (go_big_quiet_want; go_big_quiet_op; go_big_quiet_on)); refine wpQuiet_nil ?_) | (refine call_skip rfl rfl (by simp only [Act.put, List.setIfInBounds_toArray, List.set_cons_succ, List.set_cons_zero]; rfl) ?_) | (refine call_at 11 rfl ?_; (refine call_one (.bool true) Try.func16 (by kernel_rfl) rfl rfl rfl rfl (by simp only [Act.put, List.setIfInBounds_toArray, List.set_cons_succ, List.set_cons_zero]; rfl) (fun z vals hv => ?_) ?_; (have hc := Holds_top v _ ⟨op, num, text, A, n, c⟩ z.w (HRW.out.on z.h); rw [HRR.out] at hc; exact ⟨_, (by first | (simp [ev, Act.eval, Env.val] <;> rfl) | (simp [ev, Act.eval, It.val, Env.val]; done)), hc⟩))) | (refine call_at 14 rfl ?_; (refine call_one (.bool true) Try.func17 (by kernel_rfl) rfl rfl rfl rfl (by simp only [Act.put, List.setIfInBounds_toArray, List.set_cons_succ, List.set_cons_zero]; rfl) (fun z vals hv => ?_) ?_; (have hc := refHolds_top v _ ⟨op, num, text, A, n, c⟩ z.w (HRW.out.on z.h); rw [HRR.out] at hc; exact ⟨_, (by first | (simp [ev, Act.eval, Env.val] <;> rfl) | (simp [ev, Act.eval, It.val, Env.val]; done)), hc⟩))) | (refine call_at 17 rfl ?_; (refine call_one (.bool true) Try.func11 (by kernel_rfl) rfl rfl rfl rfl (by simp only [Act.put, List.setIfInBounds_toArray, List.set_cons_succ, List.set_cons_zero]; rfl) (fun z vals hv => ?_) ?_; (exact ⟨_, (by first | (simp [ev, Act.eval] <;> rfl) | (simp [ev, Act.eval, It.val]; done)), awake_any z.w⟩))))); intro wq vals hgq; simp only [over, Nt, List.map_cons, List.map_nil, List.foldl_cons, List.foldl_nil, Act.put, List.setIfInBounds_toArray, List.set_cons_succ, List.set_cons_zero]; clear hcr)
      have hbE := hbW.trans (hgq.mono (by omega))
      go_wp2_with fail
      go_ret
      exact ⟨rfl, hbE⟩

end Xp
end Go.Proofs.Ytigfkbomeimobaa
