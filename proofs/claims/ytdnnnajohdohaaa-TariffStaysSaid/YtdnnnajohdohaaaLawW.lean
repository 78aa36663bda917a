/-
  Arguments opened with the weights of what is read: every slice is of a machine's size. No condition.
-/
import Derived.Test.YtdnnnajohdohaaaLawN
import Derived.SizedLaws
set_option maxRecDepth 100000
set_option linter.unusedVariables false
set_option linter.unusedSimpArgs false
namespace Go.Proofs.Ytdnnnajohdohaaa
open Go.ChangeShapes Go.WideShapes Go.ChangeAt Go.RowKit
section
variable {H : Type} {enc : TypeId × Value → H} {P : Program} {w : World} {base : Nat} {spare : Nat → Bool} {held : Bool}
def Fit (P : Program) (t : TypeId) (d : DataW H) : Prop := ∀ m ∈ d.weights P t, m ≤ reachBytes
theorem Fit.of {ts : List TypeId} {ds : List (DataW H)} (h : (DataW.weightsEach P ts ds).all (· ≤ reachBytes) = true) {j : Nat} {t : TypeId} {d : DataW H} (ht : ts[j]? = some t) (hd : ds[j]? = some d) : Fit P t d := fun m hm => by
  have := List.all_eq_true.1 h _ (DataW.weights_mem_each ht hd m hm)
  simpa using this
theorem weights_mem_all {e : TypeId} : ∀ {ds : List (DataW H)} {d : DataW H}, d ∈ ds → ∀ n ∈ d.weights P e, n ∈ DataW.weightsAll P e ds
  | d0 :: ds, d, hd, n, hn => by
    simp only [DataW.weightsAll, List.mem_append]
    rcases List.mem_cons.1 hd with rfl | hd
    · exact .inl hn
    · exact .inr (weights_mem_all hd n hn)
theorem sub_cellsW {e : TypeId} {fs : Array Field} {n : Nat} {cs : List Value} {y : DataW H × List MemPlace} (he : P.underlying e = some (.struct fs)) (hF : Fit P e y.1)
    (h : DataW.trod enc P w base spare held n e cs = some y) {i : Nat} {f : Field} (hf : fs[i]? = some f) : ∃ (m : Nat) (z : DataW H × List MemPlace), n = m + 1 ∧ DataW.trod enc P w base spare held m f.type ((cs.drop f.offset).take (P.cellsOf f.type)) = some z ∧ Fit P f.type z.1 := by
  obtain ⟨ys, m, hm, hy, _, hyl, hat⟩ := DataW.trod_struct he h
  have hil : i < fs.size := (Array.getElem?_eq_some_iff.1 hf).1
  refine ⟨m, ys[i]'(by omega), hm, (hat i f hf).trans (List.getElem?_eq_getElem (by omega)), fun q hq => hF q ?_⟩
  have e1 : y.1 = .agg (ys.map (·.1)) := by rw [hy]
  rw [e1]
  simp only [DataW.weights, he]
  exact DataW.weights_mem_each (j := i) (t := f.type) (d := (ys[i]'(by omega)).1) (by simp [hf]) (by rw [List.getElem?_map, List.getElem?_eq_getElem (by omega)]; rfl) q hq
theorem sub_cellW {e : TypeId} {fs : Array Field} {n : Nat} {cs : List Value} {y : DataW H × List MemPlace} (he : P.underlying e = some (.struct fs)) (hF : Fit P e y.1)
    (h : DataW.trod enc P w base spare held n e cs = some y) {i : Nat} {f : Field} (hf : fs[i]? = some f) {o : Nat} (ho : f.offset = o) (hc : P.cellsOf f.type = 1) (hi : o < cs.length) : ∃ (v : Value) (m : Nat) (z : DataW H × List MemPlace), n = m + 1 ∧ cs[o]? = some v ∧ DataW.trod enc P w base spare held m f.type [v] = some z ∧ Fit P f.type z.1 := by
  obtain ⟨m, z, hm, hz, hz2⟩ := sub_cellsW he hF h hf
  rw [ho, hc, List.drop_eq_getElem_cons hi] at hz
  exact ⟨cs[o], m, z, hm, List.getElem?_eq_getElem hi, hz, hz2⟩
/-- a slice whose elements read as items with a property; its bytes are a machine's -/
theorem open_itemsW {α : Type} [Flat α] {t e : TypeId} {v : Value} {fuel : Nat} {y : DataW H × List MemPlace} (K : α → Prop) (ht : P.underlying t = some (.slice e)) (hC : P.cellsOf e = Flat.sz α) (hF : Fit P t y.1)
    (hread : ∀ (n : Nat) (cs : List Value) (y : DataW H × List MemPlace), n < fuel → cs.length = Flat.sz α → DataW.trod enc P w base spare held n e cs = some y → Fit P e y.1 → ∃ x : α, cs = Flat.cells x ∧ K x)
    (h : DataW.trod enc P w base spare held fuel t [v] = some y) : ∃ (A : Option Addr) (n c : Nat) (xs : List α), v = .slice A n c ∧ (A = none → c = 0) ∧ Sl w A n c xs ∧ (∀ x ∈ xs, K x) ∧ n * P.bytesOf e ≤ reachBytes := by
  rcases DataW.trod_slice ht h with ⟨h0, _⟩ | ⟨a, n0, c0, elems, rest, n, hfu, hcs, hx, hb, hl, hm, hlen, hel, _, _⟩
  · simp at h0
    exact ⟨none, 0, 0, [], h0, fun _ => rfl, Sl.nil_ _, by simp, by simp⟩
  · simp at hcs
    subst hcs
    have hy1 : y.1 = .slice (elems.map (·.1)) (rest.map (·.1)) := by rw [hx]
    have hW : n0 * P.bytesOf e ≤ reachBytes := by
      have := hF ((elems.length + rest.length) * P.bytesOf e) (by rw [hy1]; simp only [DataW.weights, ht, List.length_map]; simp)
      refine Nat.le_trans ?_ this
      rw [← hlen]
      exact Nat.mul_le_mul_right _ (by omega)
    have hFE : ∀ z ∈ elems, Fit P e z.1 := fun z hz q hq => hF q (by
      rw [hy1]
      simp only [DataW.weights, ht]
      exact List.mem_cons_of_mem _ (List.mem_append_left _ (weights_mem_all (List.mem_map_of_mem hz) q hq)))
    have key : ∀ i, i < n0 → ∃ x : α, (∀ j u, (Flat.cells x)[j]? = some u → w.cell? (a.add (i * Flat.sz α + j)) = some u) ∧ K x := by
      intro i hin
      have h1 := hel i hin
      rw [List.getElem?_eq_getElem (by omega)] at h1
      obtain ⟨cs', hc, ht'⟩ := Option.bind_eq_some_iff.1 h1
      rw [hC] at hc
      obtain ⟨_, hcl, hat⟩ := World.cells?_some hc
      obtain ⟨x, hx, hK⟩ := hread _ _ _ (by omega) hcl ht' (hFE _ (List.getElem_mem _))
      refine ⟨x, fun j u hu => ?_, hK⟩
      have hj : j < Flat.sz α := by rw [← Flat.len x]; exact (List.getElem?_eq_some_iff.1 hu).1
      have h1 := hat j hj
      rw [Go.Deep.add_add, hx, hu] at h1
      exact h1
    by_cases hn : n0 = 0
    · subst hn
      exact ⟨some a, 0, c0, [], rfl, fun h => (by cases h), ⟨rfl, by omega, hm, fun h => absurd h (by omega)⟩, by simp, by simp⟩
    · have h0 : ∃ u, w.cell? a = some u := by
        obtain ⟨x, hx, _⟩ := key 0 (by omega)
        have hp := Flat.pos (α := α)
        have hl0 := Flat.len x
        have h1 := hx 0 _ (List.getElem?_eq_getElem (show 0 < (Flat.cells x).length by omega))
        exact ⟨(Flat.cells x)[0]'(by omega), by simpa [Addr.add] using h1⟩
      obtain ⟨u0, h0⟩ := h0
      have hsp := World.cell?_spot h0
      have hbl := lt_of_cell h0
      obtain ⟨b, off, spot⟩ := a
      dsimp only at hsp hbl
      subst hsp
      refine ⟨some ⟨b, off, none⟩, n0, c0, List.ofFn (fun i : Fin n0 => Classical.choose (key i.1 i.2)), rfl, fun h => (by cases h), ⟨by simp, hl, hm, fun _ => ⟨b, off, rfl, hbl, fun i x hx j u hu => ?_⟩⟩, ?_, hW⟩
      · rw [List.getElem?_ofFn] at hx
        split at hx
        · rename_i hin
          cases hx
          have h1 := (Classical.choose_spec (key i hin)).1 j u hu
          rw [add_mk] at h1
          rw [Nat.add_assoc]
          exact h1
        · cases hx
      · intro x hx
        obtain ⟨i, rfl⟩ := List.mem_ofFn.1 hx
        exact (Classical.choose_spec (key i.1 i.2)).2
end
end Go.Proofs.Ytdnnnajohdohaaa
