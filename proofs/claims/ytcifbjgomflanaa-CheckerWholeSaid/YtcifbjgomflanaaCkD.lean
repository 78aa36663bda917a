/-
  Checker: arguments opened. No condition.
-/
import Derived.Test.YtcifbjgomflanaaCkC
import Derived.Test.YtcifbjgomflanaaLawE
import Derived.BigQuiet
import Derived.StillTailTactics
import Derived.Lib.Overlaps
import Derived.Deep.DeepCutAuto
set_option maxRecDepth 100000
set_option linter.unusedVariables false
set_option linter.unusedSimpArgs false
namespace Go.Proofs.Ytcifbjgomflanaa
open Go.RowKit

open Go.ChangeShapes Go.WideShapes Go.ChangeAt Go.RowKit
namespace Ck
theorem stp_read {H : Type} {enc : TypeId × Value → H} {w : World} {base : Nat} {spare : Nat → Bool} {held : Bool} (n : Nat) (cs : List Value) (y : DataW H × List MemPlace) (hl : cs.length = Flat.sz Stp)
    (h : DataW.trod enc Try.prog w base spare held n 44 cs = some y) : ∃ x : Stp, cs = Flat.cells x := by
  have hS : Try.prog.underlying 44 = some (.struct (Try.prog.fieldsOf 44)) := by kernel_rfl
  have hone : Go.Deep.oneCellFields Try.prog (Try.prog.fieldsOf 44) = true := by kernel_rfl
  have h3 : cs.length = 3 := hl
  obtain ⟨f0, hf0, hk0⟩ : ∃ f, (Try.prog.fieldsOf 44)[0]? = some f ∧ Try.prog.underlying f.type = some (.int .i64) := ⟨_, rfl, by kernel_rfl⟩
  obtain ⟨f1, hf1, hk1⟩ : ∃ f, (Try.prog.fieldsOf 44)[1]? = some f ∧ Try.prog.underlying f.type = some (.int .i64) := ⟨_, rfl, by kernel_rfl⟩
  obtain ⟨f2, hf2, hk2⟩ : ∃ f, (Try.prog.fieldsOf 44)[2]? = some f ∧ Try.prog.underlying f.type = some (.int .i64) := ⟨_, rfl, by kernel_rfl⟩
  obtain ⟨a, ha, _⟩ := field_int hS hone h hf0 (by omega) hk0
  obtain ⟨b, hb, _⟩ := field_int hS hone h hf1 (by omega) hk1
  obtain ⟨c, hc, _⟩ := field_int hS hone h hf2 (by omega) hk2
  match cs, h3 with
  | [u, v, w], _ =>
    simp only [List.getElem?_cons_zero, List.getElem?_cons_succ, Option.some.injEq] at ha hb hc
    subst ha hb hc
    exact ⟨⟨a, b, c⟩, rfl⟩
end Ck
end Go.Proofs.Ytcifbjgomflanaa
