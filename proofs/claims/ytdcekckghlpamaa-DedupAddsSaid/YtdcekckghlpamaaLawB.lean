/-
  An argument that is an array of two ints, opened. No condition.
-/
import Derived.Test.YtdcekckghlpamaaLaw
import Derived.OpenShut
set_option maxRecDepth 100000
set_option linter.unusedVariables false
set_option linter.unusedSimpArgs false
namespace Go.Proofs.Ytdcekckghlpamaa
open Go.ChangeShapes Go.WideShapes Go.ChangeAt Go.RowKit
section
variable {H : Type} {enc : TypeId × Value → H} {P : Program} {w : World} {base : Nat} {spare : Nat → Bool} {held : Bool}
theorem open_two {t e : TypeId} {k : IntKind} {v : Value} {d : DataW H} {p : List MemPlace} {r : Reach} {b0 : Nat} (ht : P.underlying t = some (.array 2 e)) (he : P.underlying e = some (.int k)) (hC : P.cellsOf e = 1) (hT : P.cellsOf t = 2)
    (hv : Value.okWide P w r b0 t v) (h : DataW.Trod enc P w base spare held t v d p) : ∃ a b : Int, v = .agg #[.int k a, .int k b] ∧ (Lit.int k a).wf = true ∧ (Lit.int k b).wf = true := by
  unfold Value.okWide at hv
  rw [ht] at hv
  obtain ⟨cs, rfl, hsz, _⟩ := hv
  obtain ⟨fuel, hf⟩ := h
  obtain ⟨ys, m, _, _, hl, hyl, hat⟩ := DataW.trod_array ht hf
  rw [hT] at hsz
  obtain ⟨l⟩ := cs
  match l, hsz with
  | [u, v], _ =>
    have h0 := hat 0 (by omega)
    have h1 := hat 1 (by omega)
    rw [hC] at h0 h1
    rw [List.getElem?_eq_getElem (by omega)] at h0 h1
    obtain ⟨a, ha, _, wa⟩ := DataW.trod_int he h0
    obtain ⟨b, hb, _, wb⟩ := DataW.trod_int he h1
    simp [Value.cells] at ha hb
    exact ⟨a, b, by rw [ha, hb], wa, wb⟩
end
end Go.Proofs.Ytdcekckghlpamaa
