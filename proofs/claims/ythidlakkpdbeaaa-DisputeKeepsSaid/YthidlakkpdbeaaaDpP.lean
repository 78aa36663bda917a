/-
  Disputes: an array of three numbers as an argument, opened. No condition.
-/
import Derived.Test.YthidlakkpdbeaaaDpO
import Derived.Laws.IdiomArrays
set_option maxRecDepth 100000
set_option linter.unusedVariables false
set_option linter.unusedSimpArgs false
namespace Go.Proofs.Ythidlakkpdbeaaa
open Go.ChangeShapes Go.WideShapes Go.ChangeAt Go.RowKit
namespace Dp
section
variable {H : Type} {enc : TypeId × Value → H} {w : World} {base : Nat} {spare : Nat → Bool} {held : Bool}
theorem open_arr3 {v : Value} {d : DataW H} {p : List MemPlace} {r : Reach} {b0 : Nat} (hv : Value.okWide Try.prog w r b0 41 v) (h : DataW.Trod enc Try.prog w base spare held 41 v d p) : ∃ (f m t : Int), v = arr3 f m t := by
  simp only [Value.okWide, Try.underlying41] at hv
  obtain ⟨cs, rfl, hsz, _⟩ := hv
  obtain ⟨fuel, hf⟩ := h
  have hf' : DataW.trod enc Try.prog w base spare held fuel 41 cs.toList = some (d, p) := by simpa [Value.cells] using hf
  have hl : cs.toList.length = 3 := by rw [Array.length_toList, hsz]; kernel_rfl
  have key : ∃ f m t : Int, cs.toList = [.int .i64 f, .int .i64 m, .int .i64 t] := by
    match hcl : cs.toList, hl with
    | [c0, c1, c2], _ =>
      rw [hcl] at hf'
      obtain ⟨y0, y1, y2, n, _, t0, t1, t2⟩ := trod_array3 Try.underlying41 (by kernel_rfl) hf'
      obtain ⟨z0, e0, _⟩ := DataW.trod_int Try.underlying3 t0
      obtain ⟨z1, e1, _⟩ := DataW.trod_int Try.underlying3 t1
      obtain ⟨z2, e2, _⟩ := DataW.trod_int Try.underlying3 t2
      cases e0
      cases e1
      cases e2
      exact ⟨z0, z1, z2, rfl⟩
  obtain ⟨f, m, t, e⟩ := key
  exact ⟨f, m, t, congrArg Value.agg (Array.toList_inj.1 e)⟩
end
end Dp
end Go.Proofs.Ythidlakkpdbeaaa
