/-
  Expressions: Holds of an expression. No condition.
-/
import Derived.Test.YtdjlfdbdhacmjaaExM
import Derived.Test.YtdjlfdbdhacmjaaExR
import Derived.BigQuiet
import Derived.StillTailTactics
import Derived.Lib.Overlaps
import Derived.Deep.DeepCutAuto
set_option maxRecDepth 100000
set_option linter.unusedVariables false
set_option linter.unusedSimpArgs false
namespace Go.Proofs.Ytdjlfdbdhacmjaa
open Go.RowKit

namespace Xp
def topH (v : Env) (e : Ex) : Bool := if (srt 16 e).2 = 0 ∧ (srt 16 e).1 = 3 then holE v 16 e else false

set_option maxHeartbeats 4000000 in
theorem Holds_top (v : Env) (e : Ex) (x : It) (w : World) (h : Rp w e x) : Calls Try.prog 17 #[x.val, v.val] w fun r w' => r = .returned (.bool (topH v e)) ∧ Below w.heap.size w w' := by
  obtain ⟨op, num, text, args, A, n, c, items, rfl, rfl, hsl, hil, hnil, hch⟩ := h.inv
  have HR := Lib.hid h
  clear h hsl hil hch hnil
  unfold It.val Env.val
  obtain ⟨⟨s, y⟩, hs⟩ : ∃ p, srt 16 (.mk op num text args) = p := ⟨_, rfl⟩
  have HS := Lib.hid hs
  clear hs
  have hov : optV none = .tuple #[.int .i64 0, .bool false] := rfl
  have hov2 : ∀ x : Int, optV (some x) = .tuple #[.int .i64 x, .bool true] := fun _ => rfl
  by_cases hy : y = 0
  · by_cases hss : s = 3
    · subst hy hss
      have HG := Lib.hid (show topH v (.mk op num text args) = holE v 16 (.mk op num text args) by unfold topH; rw [HS.out]; exact if_pos ⟨rfl, rfl⟩)
      go_enter Try.func17, Try.ntmps17
      go_upto_region 1 with (fail)
      (obtain ⟨W, hWW, hbW, hzW, f1W, f2W, qfa, qfb⟩ := box2 w #[.int .i64 op, .int .i64 num, .string text, .slice A n c] 45 #[.int .i64 v.kind, .int .i64 v.units, .int .i64 v.weekday, .int .i64 v.minute, .int .i64 v.total, .int .i64 v.spent, .string v.zone, .string v.band, .bool v.family] 29; rw [← hWW]; have qa0 : W.cell? ⟨w.heap.size, 0, none⟩ = some (.int .i64 op) := f1W 0 _ rfl; have qa1 : W.cell? ⟨w.heap.size, 1, none⟩ = some (.int .i64 num) := f1W 1 _ rfl; have qa2 : W.cell? ⟨w.heap.size, 2, none⟩ = some (.string text) := f1W 2 _ rfl; have qa3 : W.cell? ⟨w.heap.size, 3, none⟩ = some (.slice A n c) := f1W 3 _ rfl; have qb0 : W.cell? ⟨w.heap.size + 1, 0, none⟩ = some (.int .i64 v.kind) := f2W 0 _ rfl; have qb1 : W.cell? ⟨w.heap.size + 1, 1, none⟩ = some (.int .i64 v.units) := f2W 1 _ rfl; have qb2 : W.cell? ⟨w.heap.size + 1, 2, none⟩ = some (.int .i64 v.weekday) := f2W 2 _ rfl; have qb3 : W.cell? ⟨w.heap.size + 1, 3, none⟩ = some (.int .i64 v.minute) := f2W 3 _ rfl; have qb4 : W.cell? ⟨w.heap.size + 1, 4, none⟩ = some (.int .i64 v.total) := f2W 4 _ rfl; have qb5 : W.cell? ⟨w.heap.size + 1, 5, none⟩ = some (.int .i64 v.spent) := f2W 5 _ rfl; have qb6 : W.cell? ⟨w.heap.size + 1, 6, none⟩ = some (.string v.zone) := f2W 6 _ rfl; have qb7 : W.cell? ⟨w.heap.size + 1, 7, none⟩ = some (.string v.band) := f2W 7 _ rfl; have qb8 : W.cell? ⟨w.heap.size + 1, 8, none⟩ = some (.bool v.family) := f2W 8 _ rfl; clear hWW f1W f2W)
      have HRW := Lib.hid (HR.out.on hbW)
      have hgW : w.heap.size + 1 < W.heap.size := hzW
      have hgW0 : w.heap.size < W.heap.size := by omega
      go_wp2_with fail
      refine (expr_s (.mk op num text args) ⟨op, num, text, A, n, c⟩ _ 3 0 HS.out HRW.out).mono ?_
      rintro r w1 ⟨rfl, hb1⟩
      (have hzhb1 := hb1.size; replace qa0 := (hb1.cell (p := ⟨_, _, none⟩) (by (try dsimp only) <;> omega)).trans qa0; replace qa1 := (hb1.cell (p := ⟨_, _, none⟩) (by (try dsimp only) <;> omega)).trans qa1; replace qa2 := (hb1.cell (p := ⟨_, _, none⟩) (by (try dsimp only) <;> omega)).trans qa2; replace qa3 := (hb1.cell (p := ⟨_, _, none⟩) (by (try dsimp only) <;> omega)).trans qa3; replace qb0 := (hb1.cell (p := ⟨_, _, none⟩) (by (try dsimp only) <;> omega)).trans qb0; replace qb1 := (hb1.cell (p := ⟨_, _, none⟩) (by (try dsimp only) <;> omega)).trans qb1; replace qb2 := (hb1.cell (p := ⟨_, _, none⟩) (by (try dsimp only) <;> omega)).trans qb2; replace qb3 := (hb1.cell (p := ⟨_, _, none⟩) (by (try dsimp only) <;> omega)).trans qb3; replace qb4 := (hb1.cell (p := ⟨_, _, none⟩) (by (try dsimp only) <;> omega)).trans qb4; replace qb5 := (hb1.cell (p := ⟨_, _, none⟩) (by (try dsimp only) <;> omega)).trans qb5; replace qb6 := (hb1.cell (p := ⟨_, _, none⟩) (by (try dsimp only) <;> omega)).trans qb6; replace qb7 := (hb1.cell (p := ⟨_, _, none⟩) (by (try dsimp only) <;> omega)).trans qb7; replace qb8 := (hb1.cell (p := ⟨_, _, none⟩) (by (try dsimp only) <;> omega)).trans qb8; replace HRW := Lib.hid (HRW.out.on hb1); replace hbW := Below.trans hbW (Below.mono hb1 (by omega)))
      go_wp2_with fail
      refine (holds_any v 16 (by decide) (.mk op num text args) ⟨op, num, text, A, n, c⟩ _ HRW.out HS.out).mono ?_
      rintro r w2 ⟨rfl, hb2⟩
      have hbE := hbW.trans (hb2.mono hbW.size)
      go_wp2_with fail
      go_ret
      exact ⟨ret_bool HG.out.symm, hbE⟩
    · subst hy
      have HF := Lib.hid (show topH v (.mk op num text args) = false by unfold topH; rw [HS.out]; exact if_neg (by intro hh; have h1 := hh.1; have h2 := hh.2; dsimp only at h1 h2; omega))
      have hs2 : (s == 3) = false := by simpa using hss
      clear hss
      go_enter Try.func17, Try.ntmps17
      go_upto_region 1 with (fail)
      (obtain ⟨W, hWW, hbW, hzW, f1W, f2W, qfa, qfb⟩ := box2 w #[.int .i64 op, .int .i64 num, .string text, .slice A n c] 45 #[.int .i64 v.kind, .int .i64 v.units, .int .i64 v.weekday, .int .i64 v.minute, .int .i64 v.total, .int .i64 v.spent, .string v.zone, .string v.band, .bool v.family] 29; rw [← hWW]; have qa0 : W.cell? ⟨w.heap.size, 0, none⟩ = some (.int .i64 op) := f1W 0 _ rfl; have qa1 : W.cell? ⟨w.heap.size, 1, none⟩ = some (.int .i64 num) := f1W 1 _ rfl; have qa2 : W.cell? ⟨w.heap.size, 2, none⟩ = some (.string text) := f1W 2 _ rfl; have qa3 : W.cell? ⟨w.heap.size, 3, none⟩ = some (.slice A n c) := f1W 3 _ rfl; have qb0 : W.cell? ⟨w.heap.size + 1, 0, none⟩ = some (.int .i64 v.kind) := f2W 0 _ rfl; have qb1 : W.cell? ⟨w.heap.size + 1, 1, none⟩ = some (.int .i64 v.units) := f2W 1 _ rfl; have qb2 : W.cell? ⟨w.heap.size + 1, 2, none⟩ = some (.int .i64 v.weekday) := f2W 2 _ rfl; have qb3 : W.cell? ⟨w.heap.size + 1, 3, none⟩ = some (.int .i64 v.minute) := f2W 3 _ rfl; have qb4 : W.cell? ⟨w.heap.size + 1, 4, none⟩ = some (.int .i64 v.total) := f2W 4 _ rfl; have qb5 : W.cell? ⟨w.heap.size + 1, 5, none⟩ = some (.int .i64 v.spent) := f2W 5 _ rfl; have qb6 : W.cell? ⟨w.heap.size + 1, 6, none⟩ = some (.string v.zone) := f2W 6 _ rfl; have qb7 : W.cell? ⟨w.heap.size + 1, 7, none⟩ = some (.string v.band) := f2W 7 _ rfl; have qb8 : W.cell? ⟨w.heap.size + 1, 8, none⟩ = some (.bool v.family) := f2W 8 _ rfl; clear hWW f1W f2W)
      have HRW := Lib.hid (HR.out.on hbW)
      have hgW : w.heap.size + 1 < W.heap.size := hzW
      have hgW0 : w.heap.size < W.heap.size := by omega
      go_wp2_with fail
      refine (expr_s (.mk op num text args) ⟨op, num, text, A, n, c⟩ _ s 0 HS.out HRW.out).mono ?_
      rintro r w1 ⟨rfl, hb1⟩
      (have hzhb1 := hb1.size; replace qa0 := (hb1.cell (p := ⟨_, _, none⟩) (by (try dsimp only) <;> omega)).trans qa0; replace qa1 := (hb1.cell (p := ⟨_, _, none⟩) (by (try dsimp only) <;> omega)).trans qa1; replace qa2 := (hb1.cell (p := ⟨_, _, none⟩) (by (try dsimp only) <;> omega)).trans qa2; replace qa3 := (hb1.cell (p := ⟨_, _, none⟩) (by (try dsimp only) <;> omega)).trans qa3; replace qb0 := (hb1.cell (p := ⟨_, _, none⟩) (by (try dsimp only) <;> omega)).trans qb0; replace qb1 := (hb1.cell (p := ⟨_, _, none⟩) (by (try dsimp only) <;> omega)).trans qb1; replace qb2 := (hb1.cell (p := ⟨_, _, none⟩) (by (try dsimp only) <;> omega)).trans qb2; replace qb3 := (hb1.cell (p := ⟨_, _, none⟩) (by (try dsimp only) <;> omega)).trans qb3; replace qb4 := (hb1.cell (p := ⟨_, _, none⟩) (by (try dsimp only) <;> omega)).trans qb4; replace qb5 := (hb1.cell (p := ⟨_, _, none⟩) (by (try dsimp only) <;> omega)).trans qb5; replace qb6 := (hb1.cell (p := ⟨_, _, none⟩) (by (try dsimp only) <;> omega)).trans qb6; replace qb7 := (hb1.cell (p := ⟨_, _, none⟩) (by (try dsimp only) <;> omega)).trans qb7; replace qb8 := (hb1.cell (p := ⟨_, _, none⟩) (by (try dsimp only) <;> omega)).trans qb8; replace HRW := Lib.hid (HRW.out.on hb1); replace hbW := Below.trans hbW (Below.mono hb1 (by omega)))
      have hbE := hbW
      go_wp2_with fail
      go_ret
      exact ⟨ret_bool HF.out.symm, hbE⟩
  · have HF := Lib.hid (show topH v (.mk op num text args) = false by unfold topH; rw [HS.out]; exact if_neg (by intro hh; have h1 := hh.1; have h2 := hh.2; dsimp only at h1 h2; omega))
    have hy2 : (y == 0) = false := by simpa using hy
    clear hy
    go_enter Try.func17, Try.ntmps17
    go_upto_region 1 with (fail)
    (obtain ⟨W, hWW, hbW, hzW, f1W, f2W, qfa, qfb⟩ := box2 w #[.int .i64 op, .int .i64 num, .string text, .slice A n c] 45 #[.int .i64 v.kind, .int .i64 v.units, .int .i64 v.weekday, .int .i64 v.minute, .int .i64 v.total, .int .i64 v.spent, .string v.zone, .string v.band, .bool v.family] 29; rw [← hWW]; have qa0 : W.cell? ⟨w.heap.size, 0, none⟩ = some (.int .i64 op) := f1W 0 _ rfl; have qa1 : W.cell? ⟨w.heap.size, 1, none⟩ = some (.int .i64 num) := f1W 1 _ rfl; have qa2 : W.cell? ⟨w.heap.size, 2, none⟩ = some (.string text) := f1W 2 _ rfl; have qa3 : W.cell? ⟨w.heap.size, 3, none⟩ = some (.slice A n c) := f1W 3 _ rfl; have qb0 : W.cell? ⟨w.heap.size + 1, 0, none⟩ = some (.int .i64 v.kind) := f2W 0 _ rfl; have qb1 : W.cell? ⟨w.heap.size + 1, 1, none⟩ = some (.int .i64 v.units) := f2W 1 _ rfl; have qb2 : W.cell? ⟨w.heap.size + 1, 2, none⟩ = some (.int .i64 v.weekday) := f2W 2 _ rfl; have qb3 : W.cell? ⟨w.heap.size + 1, 3, none⟩ = some (.int .i64 v.minute) := f2W 3 _ rfl; have qb4 : W.cell? ⟨w.heap.size + 1, 4, none⟩ = some (.int .i64 v.total) := f2W 4 _ rfl; have qb5 : W.cell? ⟨w.heap.size + 1, 5, none⟩ = some (.int .i64 v.spent) := f2W 5 _ rfl; have qb6 : W.cell? ⟨w.heap.size + 1, 6, none⟩ = some (.string v.zone) := f2W 6 _ rfl; have qb7 : W.cell? ⟨w.heap.size + 1, 7, none⟩ = some (.string v.band) := f2W 7 _ rfl; have qb8 : W.cell? ⟨w.heap.size + 1, 8, none⟩ = some (.bool v.family) := f2W 8 _ rfl; clear hWW f1W f2W)
    have HRW := Lib.hid (HR.out.on hbW)
    have hgW : w.heap.size + 1 < W.heap.size := hzW
    have hgW0 : w.heap.size < W.heap.size := by omega
    go_wp2_with fail
    refine (expr_s (.mk op num text args) ⟨op, num, text, A, n, c⟩ _ s y HS.out HRW.out).mono ?_
    rintro r w1 ⟨rfl, hb1⟩
    (have hzhb1 := hb1.size; replace qa0 := (hb1.cell (p := ⟨_, _, none⟩) (by (try dsimp only) <;> omega)).trans qa0; replace qa1 := (hb1.cell (p := ⟨_, _, none⟩) (by (try dsimp only) <;> omega)).trans qa1; replace qa2 := (hb1.cell (p := ⟨_, _, none⟩) (by (try dsimp only) <;> omega)).trans qa2; replace qa3 := (hb1.cell (p := ⟨_, _, none⟩) (by (try dsimp only) <;> omega)).trans qa3; replace qb0 := (hb1.cell (p := ⟨_, _, none⟩) (by (try dsimp only) <;> omega)).trans qb0; replace qb1 := (hb1.cell (p := ⟨_, _, none⟩) (by (try dsimp only) <;> omega)).trans qb1; replace qb2 := (hb1.cell (p := ⟨_, _, none⟩) (by (try dsimp only) <;> omega)).trans qb2; replace qb3 := (hb1.cell (p := ⟨_, _, none⟩) (by (try dsimp only) <;> omega)).trans qb3; replace qb4 := (hb1.cell (p := ⟨_, _, none⟩) (by (try dsimp only) <;> omega)).trans qb4; replace qb5 := (hb1.cell (p := ⟨_, _, none⟩) (by (try dsimp only) <;> omega)).trans qb5; replace qb6 := (hb1.cell (p := ⟨_, _, none⟩) (by (try dsimp only) <;> omega)).trans qb6; replace qb7 := (hb1.cell (p := ⟨_, _, none⟩) (by (try dsimp only) <;> omega)).trans qb7; replace qb8 := (hb1.cell (p := ⟨_, _, none⟩) (by (try dsimp only) <;> omega)).trans qb8; replace HRW := Lib.hid (HRW.out.on hb1); replace hbW := Below.trans hbW (Below.mono hb1 (by omega)))
    have hbE := hbW
    go_wp2_with fail
    go_ret
    exact ⟨ret_bool HF.out.symm, hbE⟩

set_option maxHeartbeats 4000000 in
theorem refHolds_top (v : Env) (e : Ex) (x : It) (w : World) (h : Rp w e x) : Calls Try.prog 22 #[x.val, v.val] w fun r w' => r = .returned (.bool (topH v e)) ∧ Below w.heap.size w w' := by
  obtain ⟨op, num, text, args, A, n, c, items, rfl, rfl, hsl, hil, hnil, hch⟩ := h.inv
  have HR := Lib.hid h
  clear h hsl hil hch hnil
  unfold It.val Env.val
  obtain ⟨⟨s, y⟩, hs⟩ : ∃ p, srt 16 (.mk op num text args) = p := ⟨_, rfl⟩
  have HS := Lib.hid hs
  clear hs
  have hov : optV none = .tuple #[.int .i64 0, .bool false] := rfl
  have hov2 : ∀ x : Int, optV (some x) = .tuple #[.int .i64 x, .bool true] := fun _ => rfl
  by_cases hy : y = 0
  · by_cases hss : s = 3
    · subst hy hss
      have HG := Lib.hid (show topH v (.mk op num text args) = holE v 16 (.mk op num text args) by unfold topH; rw [HS.out]; exact if_pos ⟨rfl, rfl⟩)
      go_enter Try.func22, Try.ntmps22
      go_upto_region 1 with (fail)
      (obtain ⟨W, hWW, hbW, hzW, f1W, f2W, qfa, qfb⟩ := box2 w #[.int .i64 op, .int .i64 num, .string text, .slice A n c] 45 #[.int .i64 v.kind, .int .i64 v.units, .int .i64 v.weekday, .int .i64 v.minute, .int .i64 v.total, .int .i64 v.spent, .string v.zone, .string v.band, .bool v.family] 29; rw [← hWW]; have qa0 : W.cell? ⟨w.heap.size, 0, none⟩ = some (.int .i64 op) := f1W 0 _ rfl; have qa1 : W.cell? ⟨w.heap.size, 1, none⟩ = some (.int .i64 num) := f1W 1 _ rfl; have qa2 : W.cell? ⟨w.heap.size, 2, none⟩ = some (.string text) := f1W 2 _ rfl; have qa3 : W.cell? ⟨w.heap.size, 3, none⟩ = some (.slice A n c) := f1W 3 _ rfl; have qb0 : W.cell? ⟨w.heap.size + 1, 0, none⟩ = some (.int .i64 v.kind) := f2W 0 _ rfl; have qb1 : W.cell? ⟨w.heap.size + 1, 1, none⟩ = some (.int .i64 v.units) := f2W 1 _ rfl; have qb2 : W.cell? ⟨w.heap.size + 1, 2, none⟩ = some (.int .i64 v.weekday) := f2W 2 _ rfl; have qb3 : W.cell? ⟨w.heap.size + 1, 3, none⟩ = some (.int .i64 v.minute) := f2W 3 _ rfl; have qb4 : W.cell? ⟨w.heap.size + 1, 4, none⟩ = some (.int .i64 v.total) := f2W 4 _ rfl; have qb5 : W.cell? ⟨w.heap.size + 1, 5, none⟩ = some (.int .i64 v.spent) := f2W 5 _ rfl; have qb6 : W.cell? ⟨w.heap.size + 1, 6, none⟩ = some (.string v.zone) := f2W 6 _ rfl; have qb7 : W.cell? ⟨w.heap.size + 1, 7, none⟩ = some (.string v.band) := f2W 7 _ rfl; have qb8 : W.cell? ⟨w.heap.size + 1, 8, none⟩ = some (.bool v.family) := f2W 8 _ rfl; clear hWW f1W f2W)
      have HRW := Lib.hid (HR.out.on hbW)
      have hgW : w.heap.size + 1 < W.heap.size := hzW
      have hgW0 : w.heap.size < W.heap.size := by omega
      go_wp2_with fail
      refine (refexpr_s (.mk op num text args) ⟨op, num, text, A, n, c⟩ _ 3 0 HS.out HRW.out).mono ?_
      rintro r w1 ⟨rfl, hb1⟩
      (have hzhb1 := hb1.size; replace qa0 := (hb1.cell (p := ⟨_, _, none⟩) (by (try dsimp only) <;> omega)).trans qa0; replace qa1 := (hb1.cell (p := ⟨_, _, none⟩) (by (try dsimp only) <;> omega)).trans qa1; replace qa2 := (hb1.cell (p := ⟨_, _, none⟩) (by (try dsimp only) <;> omega)).trans qa2; replace qa3 := (hb1.cell (p := ⟨_, _, none⟩) (by (try dsimp only) <;> omega)).trans qa3; replace qb0 := (hb1.cell (p := ⟨_, _, none⟩) (by (try dsimp only) <;> omega)).trans qb0; replace qb1 := (hb1.cell (p := ⟨_, _, none⟩) (by (try dsimp only) <;> omega)).trans qb1; replace qb2 := (hb1.cell (p := ⟨_, _, none⟩) (by (try dsimp only) <;> omega)).trans qb2; replace qb3 := (hb1.cell (p := ⟨_, _, none⟩) (by (try dsimp only) <;> omega)).trans qb3; replace qb4 := (hb1.cell (p := ⟨_, _, none⟩) (by (try dsimp only) <;> omega)).trans qb4; replace qb5 := (hb1.cell (p := ⟨_, _, none⟩) (by (try dsimp only) <;> omega)).trans qb5; replace qb6 := (hb1.cell (p := ⟨_, _, none⟩) (by (try dsimp only) <;> omega)).trans qb6; replace qb7 := (hb1.cell (p := ⟨_, _, none⟩) (by (try dsimp only) <;> omega)).trans qb7; replace qb8 := (hb1.cell (p := ⟨_, _, none⟩) (by (try dsimp only) <;> omega)).trans qb8; replace HRW := Lib.hid (HRW.out.on hb1); replace hbW := Below.trans hbW (Below.mono hb1 (by omega)))
      go_wp2_with fail
      refine (refholds_any v 16 (by decide) (.mk op num text args) ⟨op, num, text, A, n, c⟩ _ HRW.out HS.out).mono ?_
      rintro r w2 ⟨rfl, hb2⟩
      have hbE := hbW.trans (hb2.mono hbW.size)
      go_wp2_with fail
      go_ret
      exact ⟨ret_bool HG.out.symm, hbE⟩
    · subst hy
      have HF := Lib.hid (show topH v (.mk op num text args) = false by unfold topH; rw [HS.out]; exact if_neg (by intro hh; have h1 := hh.1; have h2 := hh.2; dsimp only at h1 h2; omega))
      have hs2 : (s == 3) = false := by simpa using hss
      clear hss
      go_enter Try.func22, Try.ntmps22
      go_upto_region 1 with (fail)
      (obtain ⟨W, hWW, hbW, hzW, f1W, f2W, qfa, qfb⟩ := box2 w #[.int .i64 op, .int .i64 num, .string text, .slice A n c] 45 #[.int .i64 v.kind, .int .i64 v.units, .int .i64 v.weekday, .int .i64 v.minute, .int .i64 v.total, .int .i64 v.spent, .string v.zone, .string v.band, .bool v.family] 29; rw [← hWW]; have qa0 : W.cell? ⟨w.heap.size, 0, none⟩ = some (.int .i64 op) := f1W 0 _ rfl; have qa1 : W.cell? ⟨w.heap.size, 1, none⟩ = some (.int .i64 num) := f1W 1 _ rfl; have qa2 : W.cell? ⟨w.heap.size, 2, none⟩ = some (.string text) := f1W 2 _ rfl; have qa3 : W.cell? ⟨w.heap.size, 3, none⟩ = some (.slice A n c) := f1W 3 _ rfl; have qb0 : W.cell? ⟨w.heap.size + 1, 0, none⟩ = some (.int .i64 v.kind) := f2W 0 _ rfl; have qb1 : W.cell? ⟨w.heap.size + 1, 1, none⟩ = some (.int .i64 v.units) := f2W 1 _ rfl; have qb2 : W.cell? ⟨w.heap.size + 1, 2, none⟩ = some (.int .i64 v.weekday) := f2W 2 _ rfl; have qb3 : W.cell? ⟨w.heap.size + 1, 3, none⟩ = some (.int .i64 v.minute) := f2W 3 _ rfl; have qb4 : W.cell? ⟨w.heap.size + 1, 4, none⟩ = some (.int .i64 v.total) := f2W 4 _ rfl; have qb5 : W.cell? ⟨w.heap.size + 1, 5, none⟩ = some (.int .i64 v.spent) := f2W 5 _ rfl; have qb6 : W.cell? ⟨w.heap.size + 1, 6, none⟩ = some (.string v.zone) := f2W 6 _ rfl; have qb7 : W.cell? ⟨w.heap.size + 1, 7, none⟩ = some (.string v.band) := f2W 7 _ rfl; have qb8 : W.cell? ⟨w.heap.size + 1, 8, none⟩ = some (.bool v.family) := f2W 8 _ rfl; clear hWW f1W f2W)
      have HRW := Lib.hid (HR.out.on hbW)
      have hgW : w.heap.size + 1 < W.heap.size := hzW
      have hgW0 : w.heap.size < W.heap.size := by omega
      go_wp2_with fail
      refine (refexpr_s (.mk op num text args) ⟨op, num, text, A, n, c⟩ _ s 0 HS.out HRW.out).mono ?_
      rintro r w1 ⟨rfl, hb1⟩
      (have hzhb1 := hb1.size; replace qa0 := (hb1.cell (p := ⟨_, _, none⟩) (by (try dsimp only) <;> omega)).trans qa0; replace qa1 := (hb1.cell (p := ⟨_, _, none⟩) (by (try dsimp only) <;> omega)).trans qa1; replace qa2 := (hb1.cell (p := ⟨_, _, none⟩) (by (try dsimp only) <;> omega)).trans qa2; replace qa3 := (hb1.cell (p := ⟨_, _, none⟩) (by (try dsimp only) <;> omega)).trans qa3; replace qb0 := (hb1.cell (p := ⟨_, _, none⟩) (by (try dsimp only) <;> omega)).trans qb0; replace qb1 := (hb1.cell (p := ⟨_, _, none⟩) (by (try dsimp only) <;> omega)).trans qb1; replace qb2 := (hb1.cell (p := ⟨_, _, none⟩) (by (try dsimp only) <;> omega)).trans qb2; replace qb3 := (hb1.cell (p := ⟨_, _, none⟩) (by (try dsimp only) <;> omega)).trans qb3; replace qb4 := (hb1.cell (p := ⟨_, _, none⟩) (by (try dsimp only) <;> omega)).trans qb4; replace qb5 := (hb1.cell (p := ⟨_, _, none⟩) (by (try dsimp only) <;> omega)).trans qb5; replace qb6 := (hb1.cell (p := ⟨_, _, none⟩) (by (try dsimp only) <;> omega)).trans qb6; replace qb7 := (hb1.cell (p := ⟨_, _, none⟩) (by (try dsimp only) <;> omega)).trans qb7; replace qb8 := (hb1.cell (p := ⟨_, _, none⟩) (by (try dsimp only) <;> omega)).trans qb8; replace HRW := Lib.hid (HRW.out.on hb1); replace hbW := Below.trans hbW (Below.mono hb1 (by omega)))
      have hbE := hbW
      go_wp2_with fail
      go_ret
      exact ⟨ret_bool HF.out.symm, hbE⟩
  · have HF := Lib.hid (show topH v (.mk op num text args) = false by unfold topH; rw [HS.out]; exact if_neg (by intro hh; have h1 := hh.1; have h2 := hh.2; dsimp only at h1 h2; omega))
    have hy2 : (y == 0) = false := by simpa using hy
    clear hy
    go_enter Try.func22, Try.ntmps22
    go_upto_region 1 with (fail)
    (obtain ⟨W, hWW, hbW, hzW, f1W, f2W, qfa, qfb⟩ := box2 w #[.int .i64 op, .int .i64 num, .string text, .slice A n c] 45 #[.int .i64 v.kind, .int .i64 v.units, .int .i64 v.weekday, .int .i64 v.minute, .int .i64 v.total, .int .i64 v.spent, .string v.zone, .string v.band, .bool v.family] 29; rw [← hWW]; have qa0 : W.cell? ⟨w.heap.size, 0, none⟩ = some (.int .i64 op) := f1W 0 _ rfl; have qa1 : W.cell? ⟨w.heap.size, 1, none⟩ = some (.int .i64 num) := f1W 1 _ rfl; have qa2 : W.cell? ⟨w.heap.size, 2, none⟩ = some (.string text) := f1W 2 _ rfl; have qa3 : W.cell? ⟨w.heap.size, 3, none⟩ = some (.slice A n c) := f1W 3 _ rfl; have qb0 : W.cell? ⟨w.heap.size + 1, 0, none⟩ = some (.int .i64 v.kind) := f2W 0 _ rfl; have qb1 : W.cell? ⟨w.heap.size + 1, 1, none⟩ = some (.int .i64 v.units) := f2W 1 _ rfl; have qb2 : W.cell? ⟨w.heap.size + 1, 2, none⟩ = some (.int .i64 v.weekday) := f2W 2 _ rfl; have qb3 : W.cell? ⟨w.heap.size + 1, 3, none⟩ = some (.int .i64 v.minute) := f2W 3 _ rfl; have qb4 : W.cell? ⟨w.heap.size + 1, 4, none⟩ = some (.int .i64 v.total) := f2W 4 _ rfl; have qb5 : W.cell? ⟨w.heap.size + 1, 5, none⟩ = some (.int .i64 v.spent) := f2W 5 _ rfl; have qb6 : W.cell? ⟨w.heap.size + 1, 6, none⟩ = some (.string v.zone) := f2W 6 _ rfl; have qb7 : W.cell? ⟨w.heap.size + 1, 7, none⟩ = some (.string v.band) := f2W 7 _ rfl; have qb8 : W.cell? ⟨w.heap.size + 1, 8, none⟩ = some (.bool v.family) := f2W 8 _ rfl; clear hWW f1W f2W)
    have HRW := Lib.hid (HR.out.on hbW)
    have hgW : w.heap.size + 1 < W.heap.size := hzW
    have hgW0 : w.heap.size < W.heap.size := by omega
    go_wp2_with fail
    refine (refexpr_s (.mk op num text args) ⟨op, num, text, A, n, c⟩ _ s y HS.out HRW.out).mono ?_
    rintro r w1 ⟨rfl, hb1⟩
    (have hzhb1 := hb1.size; replace qa0 := (hb1.cell (p := ⟨_, _, none⟩) (by (try dsimp only) <;> omega)).trans qa0; replace qa1 := (hb1.cell (p := ⟨_, _, none⟩) (by (try dsimp only) <;> omega)).trans qa1; replace qa2 := (hb1.cell (p := ⟨_, _, none⟩) (by (try dsimp only) <;> omega)).trans qa2; replace qa3 := (hb1.cell (p := ⟨_, _, none⟩) (by (try dsimp only) <;> omega)).trans qa3; replace qb0 := (hb1.cell (p := ⟨_, _, none⟩) (by (try dsimp only) <;> omega)).trans qb0; replace qb1 := (hb1.cell (p := ⟨_, _, none⟩) (by (try dsimp only) <;> omega)).trans qb1; replace qb2 := (hb1.cell (p := ⟨_, _, none⟩) (by (try dsimp only) <;> omega)).trans qb2; replace qb3 := (hb1.cell (p := ⟨_, _, none⟩) (by (try dsimp only) <;> omega)).trans qb3; replace qb4 := (hb1.cell (p := ⟨_, _, none⟩) (by (try dsimp only) <;> omega)).trans qb4; replace qb5 := (hb1.cell (p := ⟨_, _, none⟩) (by (try dsimp only) <;> omega)).trans qb5; replace qb6 := (hb1.cell (p := ⟨_, _, none⟩) (by (try dsimp only) <;> omega)).trans qb6; replace qb7 := (hb1.cell (p := ⟨_, _, none⟩) (by (try dsimp only) <;> omega)).trans qb7; replace qb8 := (hb1.cell (p := ⟨_, _, none⟩) (by (try dsimp only) <;> omega)).trans qb8; replace HRW := Lib.hid (HRW.out.on hb1); replace hbW := Below.trans hbW (Below.mono hb1 (by omega)))
    have hbE := hbW
    go_wp2_with fail
    go_ret
    exact ⟨ret_bool HF.out.symm, hbE⟩

end Xp
end Go.Proofs.Ytdjlfdbdhacmjaa
