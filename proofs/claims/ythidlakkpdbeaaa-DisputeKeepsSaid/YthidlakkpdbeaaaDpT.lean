/-
  Disputes: a list of calls, opened. No condition.
-/
import Derived.Test.YthidlakkpdbeaaaDpS
import Derived.Test.YthidlakkpdbeaaaDpP
import Derived.BigQuiet
import Derived.StillTailTactics
import Derived.Lib.Overlaps
import Derived.Deep.DeepCutAuto
import Derived.Deep.RegionWith
import Derived.Laws.Rows
set_option maxRecDepth 100000
set_option linter.unusedVariables false
set_option linter.unusedSimpArgs false
namespace Go.Proofs.Ythidlakkpdbeaaa
open Go.RowKit

namespace Dp
section
variable {H : Type} {enc : TypeId × Value → H} {w : World} {base : Nat} {spare : Nat → Bool} {held : Bool}
theorem opn_read (n : Nat) (cs : List Value) (y : DataW H × List MemPlace) (hl : cs.length = Flat.sz Opn) (h : DataW.trod enc Try.prog w base spare held n 52 cs = some y) : ∃ x : Opn, cs = Flat.cells x := by
  replace hl : cs.length = 11 := hl
  obtain ⟨i0, h0, _⟩ := sub_int Try.underlying52 h (i := 0) rfl (o := 0) rfl (by kernel_rfl) (by omega) Try.underlying3
  obtain ⟨m, z, _, hz⟩ := sub_cells Try.underlying52 h (i := 1) rfl
  have hc : Try.prog.cellsOf 24 = 7 := by kernel_rfl
  replace hz : DataW.trod enc Try.prog w base spare held m 24 ((cs.drop 1).take 7) = some z := by rw [← hc]; exact hz
  obtain ⟨d, hd⟩ := dsp_read m _ z (by simp [hl]; rfl) hz
  obtain ⟨m2, z2, _, hz2⟩ := sub_cells Try.underlying52 h (i := 2) rfl
  have hc2 : Try.prog.cellsOf 46 = 3 := by kernel_rfl
  replace hz2 : DataW.trod enc Try.prog w base spare held m2 46 ((cs.drop 8).take 3) = some z2 := by rw [← hc2]; exact hz2
  obtain ⟨x, hx, _⟩ := sub_int Try.underlying46 hz2 (i := 0) rfl (o := 0) rfl (by kernel_rfl) (by simp [hl]) Try.underlying3
  obtain ⟨c, hcr, _⟩ := sub_int Try.underlying46 hz2 (i := 1) rfl (o := 1) rfl (by kernel_rfl) (by simp [hl]) Try.underlying3
  obtain ⟨t, ht, _⟩ := sub_int Try.underlying46 hz2 (i := 2) rfl (o := 2) rfl (by kernel_rfl) (by simp [hl]) Try.underlying3
  refine ⟨⟨i0, d, x, c, t⟩, ?_⟩
  clear h hz hz2
  match cs, hl with
  | [_, _, _, _, _, _, _, _, _, _, _], _ =>
    cases h0
    cases hd
    cases hx
    cases hcr
    cases ht
    rfl
end
end Dp
end Go.Proofs.Ythidlakkpdbeaaa
