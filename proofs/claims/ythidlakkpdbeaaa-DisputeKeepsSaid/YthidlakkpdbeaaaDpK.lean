/-
  Disputes: arguments opened. No condition.
-/
import Derived.Test.YthidlakkpdbeaaaLawN
import Derived.Test.YthidlakkpdbeaaaDpJ
import Derived.Laws.IdiomArrays
set_option maxRecDepth 100000
set_option linter.unusedVariables false
set_option linter.unusedSimpArgs false
namespace Go.Proofs.Ythidlakkpdbeaaa
open Go.ChangeShapes Go.WideShapes Go.ChangeAt Go.RowKit
namespace Dp
theorem lst7 {cs : List Value} {a0 a1 a2 a3 a4 a5 a6 : Value} (hl : cs.length = 7) (h0 : cs[0]? = some a0) (h1 : cs[1]? = some a1) (h2 : cs[2]? = some a2) (h3 : cs[3]? = some a3) (h4 : cs[4]? = some a4) (h5 : cs[5]? = some a5) (h6 : cs[6]? = some a6) : cs = [a0, a1, a2, a3, a4, a5, a6] := by
  match cs, hl with
  | [_, _, _, _, _, _, _], _ => cases h0; cases h1; cases h2; cases h3; cases h4; cases h5; cases h6; rfl
section
variable {H : Type} {enc : TypeId × Value → H} {w : World} {base : Nat} {spare : Nat → Bool} {held : Bool}
theorem dsp_read (n : Nat) (cs : List Value) (y : DataW H × List MemPlace) (hl : cs.length = Flat.sz Dsp) (h : DataW.trod enc Try.prog w base spare held n 24 cs = some y) : ∃ x : Dsp, cs = Flat.cells x := by
  replace hl : cs.length = 7 := hl
  obtain ⟨i0, h0, _⟩ := sub_int Try.underlying24 h (i := 0) rfl (o := 0) rfl (by kernel_rfl) (by omega) Try.underlying3
  obtain ⟨i1, h1, _⟩ := sub_int Try.underlying24 h (i := 1) rfl (o := 1) rfl (by kernel_rfl) (by omega) Try.underlying3
  obtain ⟨i2, h2, _⟩ := sub_int Try.underlying24 h (i := 2) rfl (o := 2) rfl (by kernel_rfl) (by omega) Try.underlying3
  obtain ⟨i3, h3, _⟩ := sub_int Try.underlying24 h (i := 3) rfl (o := 3) rfl (by kernel_rfl) (by omega) Try.underlying3
  obtain ⟨i4, h4, _⟩ := sub_int Try.underlying24 h (i := 4) rfl (o := 4) rfl (by kernel_rfl) (by omega) Try.underlying3
  obtain ⟨i5, h5, _⟩ := sub_int Try.underlying24 h (i := 5) rfl (o := 5) rfl (by kernel_rfl) (by omega) Try.underlying3
  obtain ⟨i6, h6, _⟩ := sub_int Try.underlying24 h (i := 6) rfl (o := 6) rfl (by kernel_rfl) (by omega) Try.underlying3
  exact ⟨⟨i0, i1, i2, i3, i4, i5, i6⟩, lst7 hl h0 h1 h2 h3 h4 h5 h6⟩
theorem open_dsp {v : Value} {d : DataW H} {p : List MemPlace} {r : Reach} {b0 : Nat} (hv : Value.okWide Try.prog w r b0 24 v) (h : DataW.Trod enc Try.prog w base spare held 24 v d p) : ∃ u : Dsp, v = u.val := by
  obtain ⟨cs, rfl, hsz⟩ := okWide_struct Try.underlying24 hv
  obtain ⟨fuel, hf⟩ := h
  have hf' : DataW.trod enc Try.prog w base spare held fuel 24 cs.toList = some (d, p) := by simpa [Value.cells] using hf
  have hl : cs.toList.length = 7 := by rw [Array.length_toList, hsz]; kernel_rfl
  obtain ⟨u, hu⟩ := dsp_read _ _ _ hl hf'
  exact ⟨u, congrArg Value.agg (Array.toList_inj.1 hu)⟩
theorem open_within {v : Value} {d : DataW H} {p : List MemPlace} {r : Reach} {b0 : Nat} (hv : Value.okWide Try.prog w r b0 35 v) (h : DataW.Trod enc Try.prog w base spare held 35 v d p) : ∃ (f t : Int) (cat : ByteArray), v = withinV f t cat := by
  obtain ⟨cs, rfl, hsz⟩ := okWide_struct Try.underlying35 hv
  obtain ⟨fuel, hf⟩ := h
  have hf' : DataW.trod enc Try.prog w base spare held fuel 35 cs.toList = some (d, p) := by simpa [Value.cells] using hf
  have hl : cs.toList.length = 3 := by rw [Array.length_toList, hsz]; kernel_rfl
  obtain ⟨m, z, _, hz⟩ := sub_cells Try.underlying35 hf' (i := 0) rfl
  obtain ⟨s2, h2, _⟩ := sub_str Try.underlying35 hf' (i := 1) rfl (o := 2) rfl (by kernel_rfl) (by omega) Try.underlying9
  have hc : Try.prog.cellsOf 33 = 2 := by kernel_rfl
  replace hz : DataW.trod enc Try.prog w base spare held m 33 ((cs.toList.drop 0).take 2) = some z := by rw [← hc]; exact hz
  obtain ⟨f, hf0, _⟩ := sub_int Try.underlying33 hz (i := 0) rfl (o := 0) rfl (by kernel_rfl) (by simp at hl ⊢; omega) Try.underlying3
  obtain ⟨t, ht0, _⟩ := sub_int Try.underlying33 hz (i := 1) rfl (o := 1) rfl (by kernel_rfl) (by simp at hl ⊢; omega) Try.underlying3
  refine ⟨f, t, s2, congrArg Value.agg (Array.toList_inj.1 ?_)⟩
  match hcl : cs.toList, hl with
  | [_, _, _], _ =>
    rw [hcl] at h2 hf0 ht0
    cases h2
    cases hf0
    cases ht0
    rfl
end
end Dp
end Go.Proofs.Ythidlakkpdbeaaa
