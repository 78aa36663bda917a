/-
  Ladders, names: awake. No condition.
-/
import Derived.Test.YtcifbjgomflanaaCkA
import Derived.Test.YtcifbjgomflanaaExVA
import Derived.Test.YtcifbjgomflanaaExF
import Derived.Test.YtcifbjgomflanaaExY
import Derived.BigQuiet
import Derived.StillTailTactics
import Derived.Lib.Overlaps
import Derived.Deep.DeepCutAuto
import Derived.Deep.RegionWith
import Derived.Laws.Rows
import Derived.Laws.RangeString
import Derived.Laws.RangeAny
set_option maxRecDepth 100000
set_option linter.unusedVariables false
set_option linter.unusedSimpArgs false
namespace Go.Proofs.Ytcifbjgomflanaa
open Go.RowKit

namespace Ck
open Xp
abbrev Lf (op num : Int) (t : ByteArray) : Ex := .mk op num t []
abbrev Tw (op : Int) (a b : Ex) : Ex := .mk op 0 ⟨#[]⟩ [a, b]
abbrev Nn (e : Ex) : Ex := .mk 4 0 ⟨#[]⟩ [e]
theorem expr_s (e : Ex) (x : It) (w : World) (s y : Int) (hs : srt 16 e = (s, y)) (h : Rp w e x) : Calls Try.prog 12 #[x.val] w fun r w' => r = .returned (.tuple #[.int .i64 s, .int .i64 y]) ∧ Below w.heap.size w w' := by
  have := expr_any e x w h
  rw [hs] at this
  exact this
theorem refexpr_s (e : Ex) (x : It) (w : World) (s y : Int) (hs : srt 16 e = (s, y)) (h : Rp w e x) : Calls Try.prog 13 #[x.val] w fun r w' => r = .returned (.tuple #[.int .i64 s, .int .i64 y]) ∧ Below w.heap.size w w' := by
  have := refexpr_any e x w h
  rw [hs] at this
  exact this
abbrev lad1 : List Stp := [⟨60, 60, 1000⟩, ⟨0, 1, 20⟩]
abbrev lad2 : List Stp := [⟨60, 1, 0⟩, ⟨50, 1, 0⟩, ⟨0, 1, 0⟩]
theorem name_A (w : World) : Calls Try.prog 25 #[.string ⟨#[65]⟩] w fun r w' => r = .returned (.bool false) ∧ Below w.heap.size w w' := by
  go_enter Try.func25, Try.ntmps25
  go_wp2_with fail
  go_loopw [5] (fun n w' => w' = w.iter ⟨#[65]⟩ 0) (fun _ _ => 0)
  case atStart => exact rfl
  case round =>
    subst hrel
    have hnx : ∀ ty, (Instr.next (.pointer (some ⟨w.heap.size, 0, none⟩)) true ty).run Try.prog (w.iter ⟨#[65]⟩ 0) = _ := fun ty => run_next_any w ⟨#[65]⟩ 0 ty (by decide)
    have hdec : Utf8.decode ⟨#[65]⟩ 0 = (65, 1) := by decide +kernel
    go_wp2_with fail
    go_ret
    exact ⟨rfl, (Below.refl _ _).alloc (Nat.le_refl _) _⟩
theorem tariff_A (w : World) : Calls Try.prog 17 #[.agg #[.string ⟨#[65]⟩, .int .i64 0, .bool false, .slice none 0 0, .slice none 0 0, .slice none 0 0, .slice none 0 0]] w fun r w' => r = .returned (.int .i64 8) ∧ Below w.heap.size w w' := by
  go_enter Try.func17, Try.ntmps17
  go_upto_region 1 with (fail)
  (obtain ⟨W, hWW, hbW, hzW, f1W, qfa⟩ := box1 w #[.string ⟨#[65]⟩, .int .i64 0, .bool false, .slice none 0 0, .slice none 0 0, .slice none 0 0, .slice none 0 0] 39; rw [← hWW]; have qa0 : W.cell? ⟨w.heap.size, 0, none⟩ = some (.string ⟨#[65]⟩) := f1W 0 _ rfl; have qa1 : W.cell? ⟨w.heap.size, 1, none⟩ = some (.int .i64 0) := f1W 1 _ rfl; have qa2 : W.cell? ⟨w.heap.size, 2, none⟩ = some (.bool false) := f1W 2 _ rfl; have qa3 : W.cell? ⟨w.heap.size, 3, none⟩ = some (.slice none 0 0) := f1W 3 _ rfl; have qa4 : W.cell? ⟨w.heap.size, 4, none⟩ = some (.slice none 0 0) := f1W 4 _ rfl; have qa5 : W.cell? ⟨w.heap.size, 5, none⟩ = some (.slice none 0 0) := f1W 5 _ rfl; have qa6 : W.cell? ⟨w.heap.size, 6, none⟩ = some (.slice none 0 0) := f1W 6 _ rfl; clear hWW f1W)
  go_wp2_with fail
  refine (name_A _).mono ?_
  rintro r w1 ⟨rfl, hb1⟩
  have hbE := hbW.trans (hb1.mono (by omega))
  go_wp2_with fail
  go_ret
  exact ⟨rfl, hbE⟩
set_option maxHeartbeats 8000000 in
theorem awake_any (w : World) : Calls Try.prog 11 #[] w fun r w' => r = .returned (.bool true) ∧ Below w.heap.size w w' := by
  have hT := Below.refl w.heap.size w
  go_enter Try.func11, Try.ntmps11
  go_upto_region 2 with (fail)
  (obtain ⟨W, hWW, hbW, hzW, f1W, f2W, nfa, nfb⟩ := box2 w #[.int .i64 3, .int .i64 0, .string ⟨#[117, 110, 105, 116, 115]⟩, .slice none 0 0] 24 #[.int .i64 1, .int .i64 60, .string ⟨#[]⟩, .slice none 0 0] 24; rw [← hWW]; have na0 : W.cell? ⟨w.heap.size, 0, none⟩ = some (.int .i64 3) := f1W 0 _ rfl; have na1 : W.cell? ⟨w.heap.size, 1, none⟩ = some (.int .i64 0) := f1W 1 _ rfl; have na2 : W.cell? ⟨w.heap.size, 2, none⟩ = some (.string ⟨#[117, 110, 105, 116, 115]⟩) := f1W 2 _ rfl; have na3 : W.cell? ⟨w.heap.size, 3, none⟩ = some (.slice none 0 0) := f1W 3 _ rfl; have nb0 : W.cell? ⟨w.heap.size + 1, 0, none⟩ = some (.int .i64 1) := f2W 0 _ rfl; have nb1 : W.cell? ⟨w.heap.size + 1, 1, none⟩ = some (.int .i64 60) := f2W 1 _ rfl; have nb2 : W.cell? ⟨w.heap.size + 1, 2, none⟩ = some (.string ⟨#[]⟩) := f2W 2 _ rfl; have nb3 : W.cell? ⟨w.heap.size + 1, 3, none⟩ = some (.slice none 0 0) := f2W 3 _ rfl; clear hWW f1W f2W)
  replace hT := hT.trans hbW
  have hg0 : w.heap.size < W.heap.size := by omega
  have hg1 : w.heap.size + 1 < W.heap.size := by omega
  go_wp2_with fail
  refine (expr_s (Tw 9 (Lf 1 60 ⟨#[]⟩) (Lf 3 0 nUnits)) ⟨9, 0, ⟨#[]⟩, some ⟨W.heap.size, 0, none⟩, 2, 2⟩ _ 3 0 rfl (two_new W 9 0 ⟨#[]⟩ 24 _ _ ⟨1, 60, ⟨#[]⟩, none, 0, 0⟩ ⟨3, 0, nUnits, none, 0, 0⟩ (Rp.leaf _ _ _ _) (Rp.leaf _ _ _ _))).mono ?_
  rintro r w2 ⟨rfl, hb2⟩
  replace hb2 := Below.trans ((Below.refl W.heap.size W).alloc (Nat.le_refl _) _) (hb2.mono (by rw [alloc_size]; omega))
  (have hzhb2 := hb2.size; replace na0 := (hb2.cell (p := ⟨_, _, none⟩) (by (try dsimp only) <;> omega)).trans na0; replace na1 := (hb2.cell (p := ⟨_, _, none⟩) (by (try dsimp only) <;> omega)).trans na1; replace na2 := (hb2.cell (p := ⟨_, _, none⟩) (by (try dsimp only) <;> omega)).trans na2; replace na3 := (hb2.cell (p := ⟨_, _, none⟩) (by (try dsimp only) <;> omega)).trans na3; replace nb0 := (hb2.cell (p := ⟨_, _, none⟩) (by (try dsimp only) <;> omega)).trans nb0; replace nb1 := (hb2.cell (p := ⟨_, _, none⟩) (by (try dsimp only) <;> omega)).trans nb1; replace nb2 := (hb2.cell (p := ⟨_, _, none⟩) (by (try dsimp only) <;> omega)).trans nb2; replace nb3 := (hb2.cell (p := ⟨_, _, none⟩) (by (try dsimp only) <;> omega)).trans nb3; replace hT := Below.trans hT (Below.mono hb2 (by omega)))
  have hg2 : w.heap.size < w2.heap.size := by omega
  have hg3 : w.heap.size + 1 < w2.heap.size := by omega
  go_wp2_with fail
  refine (expr_s (Tw 11 (Lf 1 60 ⟨#[]⟩) (Lf 3 0 nZone)) ⟨11, 0, ⟨#[]⟩, some ⟨w2.heap.size, 0, none⟩, 2, 2⟩ _ 0 7 rfl (two_new w2 11 0 ⟨#[]⟩ 24 _ _ ⟨1, 60, ⟨#[]⟩, none, 0, 0⟩ ⟨3, 0, nZone, none, 0, 0⟩ (Rp.leaf _ _ _ _) (Rp.leaf _ _ _ _))).mono ?_
  rintro r w3 ⟨rfl, hb3⟩
  replace hT := hT.trans (Below.mono (Below.trans ((Below.refl w2.heap.size w2).alloc (Nat.le_refl _) _) (hb3.mono (by rw [alloc_size]; omega))) (by omega))
  have hz3 := hT.size
  clear hb3 hb2
  go_wp2_with fail
  refine (steps_any _ 2 2 lad1 _ (Sl.new w3 #[.int .i64 60, .int .i64 60, .int .i64 1000, .int .i64 0, .int .i64 1, .int .i64 20] 44 w3.heap.size rfl lad1 2 rfl (by unfold maxLen; decide) rfl)).mono ?_
  rintro r w4 ⟨rfl, hb4⟩
  rw [show stepsE lad1 = 0 by rfl]
  replace hT := hT.trans (Below.mono (Below.trans ((Below.refl w3.heap.size w3).alloc (Nat.le_refl _) _) (hb4.mono (by rw [alloc_size]; omega))) (by omega))
  have hz4 := hT.size
  clear hb4
  go_wp2_with fail
  refine (steps_any _ 3 3 lad2 _ (Sl.new w4 #[.int .i64 60, .int .i64 1, .int .i64 0, .int .i64 50, .int .i64 1, .int .i64 0, .int .i64 0, .int .i64 1, .int .i64 0] 44 w4.heap.size rfl lad2 3 rfl (by unfold maxLen; decide) rfl)).mono ?_
  rintro r w5 ⟨rfl, hb5⟩
  rw [show stepsE lad2 = 9 by rfl]
  replace hT := hT.trans (Below.mono (Below.trans ((Below.refl w4.heap.size w4).alloc (Nat.le_refl _) _) (hb5.mono (by rw [alloc_size]; omega))) (by omega))
  have hz5 := hT.size
  clear hb5
  go_wp2_with fail
  refine (tariff_A _).mono ?_
  rintro r w6 ⟨rfl, hb6⟩
  replace hT := hT.trans (hb6.mono (by omega))
  clear hb6
  go_wp2_with fail
  go_ret
  exact ⟨rfl, hT⟩

end Ck
end Go.Proofs.Ytcifbjgomflanaa
