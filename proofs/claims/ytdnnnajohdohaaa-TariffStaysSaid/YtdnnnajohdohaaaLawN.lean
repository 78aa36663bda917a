/-
  Structs that hold structs, opened: fields by their place. No condition.
-/
import Derived.Test.YtdnnnajohdohaaaLawT
set_option maxRecDepth 100000
set_option linter.unusedVariables false
set_option linter.unusedSimpArgs false
namespace Go.Proofs.Ytdnnnajohdohaaa
open Go.ChangeShapes Go.WideShapes Go.ChangeAt Go.RowKit
section
variable {H : Type} {enc : TypeId × Value → H} {P : Program} {w : World} {base : Nat} {spare : Nat → Bool} {held : Bool}
theorem sub_cells {e : TypeId} {fs : Array Field} {n : Nat} {cs : List Value} {y : DataW H × List MemPlace} (he : P.underlying e = some (.struct fs))
    (h : DataW.trod enc P w base spare held n e cs = some y) {i : Nat} {f : Field} (hf : fs[i]? = some f) : ∃ (m : Nat) (z : DataW H × List MemPlace), n = m + 1 ∧ DataW.trod enc P w base spare held m f.type ((cs.drop f.offset).take (P.cellsOf f.type)) = some z := by
  obtain ⟨ys, m, hm, _, _, hyl, hat⟩ := DataW.trod_struct he h
  have hil : i < fs.size := (Array.getElem?_eq_some_iff.1 hf).1
  exact ⟨m, ys[i]'(by omega), hm, (hat i f hf).trans (List.getElem?_eq_getElem (by omega))⟩
theorem sub_cell {e : TypeId} {fs : Array Field} {n : Nat} {cs : List Value} {y : DataW H × List MemPlace} (he : P.underlying e = some (.struct fs))
    (h : DataW.trod enc P w base spare held n e cs = some y) {i : Nat} {f : Field} (hf : fs[i]? = some f) {o : Nat} (ho : f.offset = o) (hc : P.cellsOf f.type = 1) (hi : o < cs.length) : ∃ (v : Value) (m : Nat) (z : DataW H × List MemPlace), n = m + 1 ∧ cs[o]? = some v ∧ DataW.trod enc P w base spare held m f.type [v] = some z := by
  obtain ⟨m, z, hm, hz⟩ := sub_cells he h hf
  rw [ho, hc, List.drop_eq_getElem_cons hi] at hz
  exact ⟨cs[o], m, z, hm, List.getElem?_eq_getElem hi, hz⟩
theorem sub_int {e : TypeId} {fs : Array Field} {n : Nat} {cs : List Value} {y : DataW H × List MemPlace} {k : IntKind} (he : P.underlying e = some (.struct fs))
    (h : DataW.trod enc P w base spare held n e cs = some y) {i : Nat} {f : Field} (hf : fs[i]? = some f) {o : Nat} (ho : f.offset = o) (hc : P.cellsOf f.type = 1) (hi : o < cs.length) (hk : P.underlying f.type = some (.int k)) : ∃ z : Int, cs[o]? = some (.int k z) ∧ (Lit.int k z).wf = true := by
  obtain ⟨v, m, y', _, hv, ht⟩ := sub_cell he h hf ho hc hi
  obtain ⟨z, hz, _, hw⟩ := DataW.trod_int hk ht
  cases hz
  exact ⟨z, hv, hw⟩
theorem sub_str {e : TypeId} {fs : Array Field} {n : Nat} {cs : List Value} {y : DataW H × List MemPlace} (he : P.underlying e = some (.struct fs))
    (h : DataW.trod enc P w base spare held n e cs = some y) {i : Nat} {f : Field} (hf : fs[i]? = some f) {o : Nat} (ho : f.offset = o) (hc : P.cellsOf f.type = 1) (hi : o < cs.length) (hk : P.underlying f.type = some .string) : ∃ s : ByteArray, cs[o]? = some (.string s) ∧ s.size ≤ maxLen := by
  obtain ⟨v, m, y', _, hv, ht⟩ := sub_cell he h hf ho hc hi
  obtain ⟨s, hs, _, hw⟩ := DataW.trod_string hk ht
  cases hs
  exact ⟨s, hv, hw⟩
theorem sub_bool {e : TypeId} {fs : Array Field} {n : Nat} {cs : List Value} {y : DataW H × List MemPlace} (he : P.underlying e = some (.struct fs))
    (h : DataW.trod enc P w base spare held n e cs = some y) {i : Nat} {f : Field} (hf : fs[i]? = some f) {o : Nat} (ho : f.offset = o) (hc : P.cellsOf f.type = 1) (hi : o < cs.length) (hk : P.underlying f.type = some .bool) : ∃ b : Bool, cs[o]? = some (.bool b) := by
  obtain ⟨v, m, y', _, hv, ht⟩ := sub_cell he h hf ho hc hi
  obtain ⟨s, hs, _⟩ := DataW.trod_bool hk ht
  cases hs
  exact ⟨s, hv⟩
end
end Go.Proofs.Ytdnnnajohdohaaa
