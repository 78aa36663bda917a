/-
  What every row of a law needs: its arguments stay as they were where nothing below the heap's old size has turned; a slice of flat items opened; Arguments that hold slices of structs that hold slices: opened with the fuel in sight; Structs that hold structs, opened: fields by their place. No condition.
-/
import Derived.Test.YteaanngagcflhaaCom
import Derived.ProofKit
import Derived.WideKeyArgs
import Derived.Deep.Slices
import Derived.Deep.Fields
import Derived.ChangeMaps5
set_option maxRecDepth 100000
set_option linter.unusedVariables false
set_option linter.unusedSimpArgs false
namespace Go.Proofs.Yteaanngagcflhaa
open Go.ChangeShapes Go.WideShapes Go.ChangeAt Go.RowKit

theorem lt_of_cell {w : World} {a : Addr} {v : Value} (h : w.cell? a = some v) : a.block < w.heap.size := by
  apply Decidable.byContradiction
  intro hn
  have h1 : w.heap[a.block]? = none := Array.getElem?_eq_none (by omega)
  simp [World.cell?, h1] at h

section
variable {H : Type} {enc : TypeId × Value → H} {P : Program}

theorem trodAll_stays (hl : laidOutB P = true) {W W' : World} {sp : Nat → Bool} : ∀ {ts : List TypeId} {vs : List Value} {ds : List (DataW H)} {ps : List MemPlace},
    (∀ t ∈ ts, P.readableRec t = true ∧ t < P.types.size) → DataW.TrodAll enc P W 0 (fun _ => true) true ts vs ds ps → (∀ p ∈ ps, W.sameAt W' p) → (∀ p ∈ ps, sp p.block = true) → DataW.TrodAll enc P W' 0 sp true ts vs ds ps
  | [], [], [], _, _, h, _, _ => h
  | t :: ts, v :: vs, d :: ds, _, hT, ⟨p, q, h1, h2, e⟩, hs, hp => by
    subst e
    exact ⟨p, q, WideElems.Trod_stays hl (hT t (List.mem_cons.2 (.inl rfl))).1 (hT t (List.mem_cons.2 (.inl rfl))).2 h1 (fun x hx => hs x (List.mem_append_left _ hx)) (fun x hx => hp x (List.mem_append_left _ hx)),
      trodAll_stays hl (fun t ht => hT t (List.mem_cons.2 (.inr ht))) h2 (fun x hx => hs x (List.mem_append_right _ hx)) (fun x hx => hp x (List.mem_append_right _ hx)), rfl⟩

/-- a law's last step: it answers true, and nothing below the heap's old size has turned -/
theorem post_true {f : Func} {s : ChangeSpec} {W W' : World} {args : Array Value} {ds gs : List (DataW H)} {before : List MemPlace} {tb : TypeId}
    (hl : laidOutB P = true) (htb : P.underlying tb = some .bool) (hr : f.resultTypes = #[tb]) (hts : ∀ t ∈ f.params.toList, P.readableRec t = true ∧ t < P.types.size) (hsv : s.vars = [])
    (hW : DataW.Whole enc P f.params.toList s.vars false W args.toList ds gs before)
    (h1 : (s.fn H (ds ++ gs)).results = [.lit (.bool true)]) (h2 : (s.fn H (ds ++ gs)).args = ds) (h3 : (s.fn H (ds ++ gs)).vars = []) (hb : Below W.heap.size W W') :
    s.post enc P f false true false false W args (.bool true) W' := by
  have hlt : ∀ p ∈ before, p.block < W.heap.size := fun p hp => hW.lt p hp
  have hW0 := hW
  obtain ⟨p, q, hA, hV, hps, hz, hn⟩ := hW
  rw [hsv] at hV
  have hq : q = [] := by cases gs <;> simp [DataW.TrodVars] at hV; exact hV
  subst hq
  rw [List.append_nil] at hps
  subst hps
  have hres : ∀ (b : Nat) (sp : Nat → Bool) (hd : Bool), DataW.TrodAll enc P W' b sp hd f.resultTypes.toList ((Value.bool true).resultList f.resultTypes.size) (s.fn H (ds ++ gs)).results [] := by
    intro b sp hd
    rw [h1, hr]
    exact trodAll_mk1 (shut_bool htb _)
  have hargs : ∀ sp : Nat → Bool, (∀ x ∈ before, sp x.block = true) → DataW.TrodAll enc P W' 0 sp true f.params.toList args.toList (s.fn H (ds ++ gs)).args before := by
    intro sp hsp
    rw [h2]
    exact trodAll_stays hl hts hA (fun x hx => hb.same (hlt x hx)) hsp
  have hvars : ∀ sp : Nat → Bool, (∀ x ∈ before, sp x.block = true) → DataW.TrodVars enc P W' sp s.vars (s.fn H (ds ++ gs)).vars [] := by
    intro sp _
    rw [h3, hsv]
    rfl
  have hold : ∀ x ∈ before, (fun b => decide (b < W.heap.size)) x.block = true := fun x hx => by simpa using hlt x hx
  refine ⟨ds, gs, before, [], before, [], hW0, hres _ _ _, hargs _ hold, hvars _ hold, World.keptBut_mono (fun x hx => ⟨hx, .inr (by simpa using hx)⟩) (hb.frame (· ∈ before)), fun _ => ?_⟩
  refine ⟨ok_one hr rfl (okWide_bool_mk htb true), _, _, [] ++ before, ⟨[] ++ before, [], trodAll_append (hargs _ (fun _ _ => rfl)) (hres _ _ _), hvars _ (fun _ _ => rfl), by simp, ?_, ?_⟩, ?_⟩
  · intro b off hp
    have hin : MemPlace.cell b off ∈ before := by simpa using hp
    rw [hb.frozen (hlt _ hin)]
    exact hz b off hin
  · intro ha
    cases ha
  · intro x hx _
    simpa using hx

variable {w : World} {base : Nat} {spare : Nat → Bool} {held : Bool}
/-- a struct of one-cell fields: each field's cell and its reading -/
theorem field_cell {e : TypeId} {fs : Array Field} {n : Nat} {cs : List Value} {y : DataW H × List MemPlace} (he : P.underlying e = some (.struct fs)) (hone : Go.Deep.oneCellFields P fs = true)
    (h : DataW.trod enc P w base spare held n e cs = some y) {i : Nat} {f : Field} (hf : fs[i]? = some f) (hi : i < cs.length) : ∃ (v : Value) (m : Nat) (z : DataW H × List MemPlace), cs[i]? = some v ∧ DataW.trod enc P w base spare held m f.type [v] = some z := by
  obtain ⟨ys, m, _, _, _, hyl, hat⟩ := DataW.trod_struct he h
  obtain ⟨ho, hk⟩ := Go.Deep.hone_of hone i f hf
  have h1 := hat i f hf
  have hil : i < fs.size := (Array.getElem?_eq_some_iff.1 hf).1
  rw [ho, hk, List.drop_eq_getElem_cons hi] at h1
  exact ⟨cs[i], m, ys[i]'(by omega), List.getElem?_eq_getElem hi, h1.trans (List.getElem?_eq_getElem (by omega))⟩
theorem field_int {e : TypeId} {fs : Array Field} {n : Nat} {cs : List Value} {y : DataW H × List MemPlace} {k : IntKind} (he : P.underlying e = some (.struct fs)) (hone : Go.Deep.oneCellFields P fs = true)
    (h : DataW.trod enc P w base spare held n e cs = some y) {i : Nat} {f : Field} (hf : fs[i]? = some f) (hi : i < cs.length) (hk : P.underlying f.type = some (.int k)) : ∃ z : Int, cs[i]? = some (.int k z) ∧ (Lit.int k z).wf = true := by
  obtain ⟨v, m, y', hv, ht⟩ := field_cell he hone h hf hi
  obtain ⟨z, hz, _, hw⟩ := DataW.trod_int hk ht
  cases hz
  exact ⟨z, hv, hw⟩

/-- a slice of flat items, nil included -/
theorem open_flat {α : Type} [Flat α] {t e : TypeId} {v : Value} {d : DataW H} {p : List MemPlace} {r : Reach} {b0 : Nat} (ht : P.underlying t = some (.slice e)) (hC : P.cellsOf e = Flat.sz α)
    (hread : ∀ (n : Nat) (cs : List Value) (y : DataW H × List MemPlace), cs.length = Flat.sz α → DataW.trod enc P w base spare held n e cs = some y → ∃ x : α, cs = Flat.cells x)
    (hv : Value.okWide P w r b0 t v) (h : DataW.Trod enc P w base spare held t v d p) : ∃ (A : Option Addr) (n c : Nat) (xs : List α), v = .slice A n c ∧ (A = none → c = 0) ∧ Sl w A n c xs := by
  obtain ⟨a0, n0, c0, rfl⟩ := okWide_slice ht hv
  obtain ⟨fuel, hf⟩ := h
  rcases Go.Deep.open_slice ht hf with ⟨h0, _⟩ | ⟨a, len, cap, m, n, D, Pl, hcs, hb, hl, hm, hmm, hx, hi⟩
  · simp [Value.cells] at h0
    obtain ⟨rfl, rfl, rfl⟩ := h0
    exact ⟨none, 0, 0, [], rfl, fun _ => rfl, Sl.nil_ _⟩
  · simp [Value.cells] at hcs
    obtain ⟨rfl, rfl, rfl⟩ := hcs
    have hlm : n0 ≤ m := by rw [hmm]; split <;> omega
    have key : ∀ i, i < n0 → ∃ x : α, ∀ j u, (Flat.cells x)[j]? = some u → w.cell? (a.add (i * Flat.sz α + j)) = some u := by
      intro i hin
      obtain ⟨cs', hc, ht'⟩ := hi i (by omega)
      rw [hC] at hc
      obtain ⟨_, hcl, hat⟩ := World.cells?_some hc
      obtain ⟨x, hx⟩ := hread _ _ _ hcl ht'
      refine ⟨x, fun j u hu => ?_⟩
      have hj : j < Flat.sz α := by rw [← Flat.len x]; exact (List.getElem?_eq_some_iff.1 hu).1
      have h1 := hat j hj
      rw [Go.Deep.add_add, hx, hu] at h1
      exact h1
    by_cases hn : n0 = 0
    · subst hn
      exact ⟨some a, 0, c0, [], rfl, fun h => (by cases h), rfl, by omega, hm, fun h => absurd h (by omega)⟩
    · have h0 : ∃ u, w.cell? a = some u := by
        obtain ⟨x, hx⟩ := key 0 (by omega)
        have hp := Flat.pos (α := α)
        have hl0 := Flat.len x
        have h1 := hx 0 _ (List.getElem?_eq_getElem (show 0 < (Flat.cells x).length by omega))
        exact ⟨(Flat.cells x)[0]'(by omega), by simpa [Addr.add] using h1⟩
      obtain ⟨u0, h0⟩ := h0
      have hsp := World.cell?_spot h0
      have hbl := lt_of_cell h0
      obtain ⟨b, off, spot⟩ := a
      dsimp only at hsp hbl
      subst hsp
      refine ⟨some ⟨b, off, none⟩, n0, c0, List.ofFn (fun i : Fin n0 => Classical.choose (key i.1 i.2)), rfl, fun h => (by cases h), by simp, hl, hm, fun _ => ⟨b, off, rfl, hbl, fun i x hx j u hu => ?_⟩⟩
      rw [List.getElem?_ofFn] at hx
      split at hx
      · rename_i hin
        cases hx
        have h1 := Classical.choose_spec (key i hin) j u hu
        rw [add_mk] at h1
        rw [Nat.add_assoc]
        exact h1
      · cases hx
end

end Go.Proofs.Yteaanngagcflhaa
namespace Go.Proofs.Yteaanngagcflhaa
open Go.ChangeShapes Go.WideShapes Go.ChangeAt Go.RowKit
section
variable {H : Type} {enc : TypeId × Value → H} {P : Program} {w : World} {base : Nat} {spare : Nat → Bool} {held : Bool}

theorem field_cellF {e : TypeId} {fs : Array Field} {n : Nat} {cs : List Value} {y : DataW H × List MemPlace} (he : P.underlying e = some (.struct fs)) (hone : Go.Deep.oneCellFields P fs = true)
    (h : DataW.trod enc P w base spare held n e cs = some y) {i : Nat} {f : Field} (hf : fs[i]? = some f) (hi : i < cs.length) : ∃ (v : Value) (m : Nat) (z : DataW H × List MemPlace), n = m + 1 ∧ cs[i]? = some v ∧ DataW.trod enc P w base spare held m f.type [v] = some z := by
  obtain ⟨ys, m, hm, _, _, hyl, hat⟩ := DataW.trod_struct he h
  obtain ⟨ho, hk⟩ := Go.Deep.hone_of hone i f hf
  have h1 := hat i f hf
  have hil : i < fs.size := (Array.getElem?_eq_some_iff.1 hf).1
  rw [ho, hk, List.drop_eq_getElem_cons hi] at h1
  exact ⟨cs[i], m, ys[i]'(by omega), hm, List.getElem?_eq_getElem hi, h1.trans (List.getElem?_eq_getElem (by omega))⟩
theorem field_str {e : TypeId} {fs : Array Field} {n : Nat} {cs : List Value} {y : DataW H × List MemPlace} (he : P.underlying e = some (.struct fs)) (hone : Go.Deep.oneCellFields P fs = true)
    (h : DataW.trod enc P w base spare held n e cs = some y) {i : Nat} {f : Field} (hf : fs[i]? = some f) (hi : i < cs.length) (hk : P.underlying f.type = some .string) : ∃ s : ByteArray, cs[i]? = some (.string s) ∧ s.size ≤ maxLen := by
  obtain ⟨v, m, y', hv, ht⟩ := field_cell he hone h hf hi
  obtain ⟨s, hs, _, hw⟩ := DataW.trod_string hk ht
  cases hs
  exact ⟨s, hv, hw⟩
theorem field_bool {e : TypeId} {fs : Array Field} {n : Nat} {cs : List Value} {y : DataW H × List MemPlace} (he : P.underlying e = some (.struct fs)) (hone : Go.Deep.oneCellFields P fs = true)
    (h : DataW.trod enc P w base spare held n e cs = some y) {i : Nat} {f : Field} (hf : fs[i]? = some f) (hi : i < cs.length) (hk : P.underlying f.type = some .bool) : ∃ b : Bool, cs[i]? = some (.bool b) := by
  obtain ⟨v, m, y', hv, ht⟩ := field_cell he hone h hf hi
  obtain ⟨s, hs, _⟩ := DataW.trod_bool hk ht
  cases hs
  exact ⟨s, hv⟩

/-- a slice whose elements read as items with a property -/
theorem open_items {α : Type} [Flat α] {t e : TypeId} {v : Value} {fuel : Nat} {y : DataW H × List MemPlace} (K : α → Prop) (ht : P.underlying t = some (.slice e)) (hC : P.cellsOf e = Flat.sz α)
    (hread : ∀ (n : Nat) (cs : List Value) (y : DataW H × List MemPlace), n < fuel → cs.length = Flat.sz α → DataW.trod enc P w base spare held n e cs = some y → ∃ x : α, cs = Flat.cells x ∧ K x)
    (h : DataW.trod enc P w base spare held fuel t [v] = some y) : ∃ (A : Option Addr) (n c : Nat) (xs : List α), v = .slice A n c ∧ (A = none → c = 0) ∧ Sl w A n c xs ∧ ∀ x ∈ xs, K x := by
  rcases DataW.trod_slice ht h with ⟨h0, _⟩ | ⟨a, n0, c0, elems, rest, n, hfu, hcs, hx, hb, hl, hm, hlen, hel, _, _⟩
  · simp at h0
    exact ⟨none, 0, 0, [], h0, fun _ => rfl, Sl.nil_ _, by simp⟩
  · simp at hcs
    subst hcs
    have key : ∀ i, i < n0 → ∃ x : α, (∀ j u, (Flat.cells x)[j]? = some u → w.cell? (a.add (i * Flat.sz α + j)) = some u) ∧ K x := by
      intro i hin
      have h1 := hel i hin
      rw [List.getElem?_eq_getElem (by omega)] at h1
      obtain ⟨cs', hc, ht'⟩ := Option.bind_eq_some_iff.1 h1
      rw [hC] at hc
      obtain ⟨_, hcl, hat⟩ := World.cells?_some hc
      obtain ⟨x, hx, hK⟩ := hread _ _ _ (by omega) hcl ht'
      refine ⟨x, fun j u hu => ?_, hK⟩
      have hj : j < Flat.sz α := by rw [← Flat.len x]; exact (List.getElem?_eq_some_iff.1 hu).1
      have h1 := hat j hj
      rw [Go.Deep.add_add, hx, hu] at h1
      exact h1
    by_cases hn : n0 = 0
    · subst hn
      exact ⟨some a, 0, c0, [], rfl, fun h => (by cases h), ⟨rfl, by omega, hm, fun h => absurd h (by omega)⟩, by simp⟩
    · have h0 : ∃ u, w.cell? a = some u := by
        obtain ⟨x, hx, _⟩ := key 0 (by omega)
        have hp := Flat.pos (α := α)
        have hl0 := Flat.len x
        have h1 := hx 0 _ (List.getElem?_eq_getElem (show 0 < (Flat.cells x).length by omega))
        exact ⟨(Flat.cells x)[0]'(by omega), by simpa [Addr.add] using h1⟩
      obtain ⟨u0, h0⟩ := h0
      have hsp := World.cell?_spot h0
      have hbl := lt_of_cell h0
      obtain ⟨b, off, spot⟩ := a
      dsimp only at hsp hbl
      subst hsp
      refine ⟨some ⟨b, off, none⟩, n0, c0, List.ofFn (fun i : Fin n0 => Classical.choose (key i.1 i.2)), rfl, fun h => (by cases h), ⟨by simp, hl, hm, fun _ => ⟨b, off, rfl, hbl, fun i x hx j u hu => ?_⟩⟩, ?_⟩
      · rw [List.getElem?_ofFn] at hx
        split at hx
        · rename_i hin
          cases hx
          have h1 := (Classical.choose_spec (key i hin)).1 j u hu
          rw [add_mk] at h1
          rw [Nat.add_assoc]
          exact h1
        · cases hx
      · intro x hx
        obtain ⟨i, rfl⟩ := List.mem_ofFn.1 hx
        exact (Classical.choose_spec (key i.1 i.2)).2
end
end Go.Proofs.Yteaanngagcflhaa
namespace Go.Proofs.Yteaanngagcflhaa
open Go.ChangeShapes Go.WideShapes Go.ChangeAt Go.RowKit
section
variable {H : Type} {enc : TypeId × Value → H} {P : Program} {w : World} {base : Nat} {spare : Nat → Bool} {held : Bool}
theorem sub_cells {e : TypeId} {fs : Array Field} {n : Nat} {cs : List Value} {y : DataW H × List MemPlace} (he : P.underlying e = some (.struct fs))
    (h : DataW.trod enc P w base spare held n e cs = some y) {i : Nat} {f : Field} (hf : fs[i]? = some f) : ∃ (m : Nat) (z : DataW H × List MemPlace), n = m + 1 ∧ DataW.trod enc P w base spare held m f.type ((cs.drop f.offset).take (P.cellsOf f.type)) = some z := by
  obtain ⟨ys, m, hm, _, _, hyl, hat⟩ := DataW.trod_struct he h
  have hil : i < fs.size := (Array.getElem?_eq_some_iff.1 hf).1
  exact ⟨m, ys[i]'(by omega), hm, (hat i f hf).trans (List.getElem?_eq_getElem (by omega))⟩
theorem sub_cell {e : TypeId} {fs : Array Field} {n : Nat} {cs : List Value} {y : DataW H × List MemPlace} (he : P.underlying e = some (.struct fs))
    (h : DataW.trod enc P w base spare held n e cs = some y) {i : Nat} {f : Field} (hf : fs[i]? = some f) {o : Nat} (ho : f.offset = o) (hc : P.cellsOf f.type = 1) (hi : o < cs.length) : ∃ (v : Value) (m : Nat) (z : DataW H × List MemPlace), n = m + 1 ∧ cs[o]? = some v ∧ DataW.trod enc P w base spare held m f.type [v] = some z := by
  obtain ⟨m, z, hm, hz⟩ := sub_cells he h hf
  rw [ho, hc, List.drop_eq_getElem_cons hi] at hz
  exact ⟨cs[o], m, z, hm, List.getElem?_eq_getElem hi, hz⟩
theorem sub_int {e : TypeId} {fs : Array Field} {n : Nat} {cs : List Value} {y : DataW H × List MemPlace} {k : IntKind} (he : P.underlying e = some (.struct fs))
    (h : DataW.trod enc P w base spare held n e cs = some y) {i : Nat} {f : Field} (hf : fs[i]? = some f) {o : Nat} (ho : f.offset = o) (hc : P.cellsOf f.type = 1) (hi : o < cs.length) (hk : P.underlying f.type = some (.int k)) : ∃ z : Int, cs[o]? = some (.int k z) ∧ (Lit.int k z).wf = true := by
  obtain ⟨v, m, y', _, hv, ht⟩ := sub_cell he h hf ho hc hi
  obtain ⟨z, hz, _, hw⟩ := DataW.trod_int hk ht
  cases hz
  exact ⟨z, hv, hw⟩
theorem sub_str {e : TypeId} {fs : Array Field} {n : Nat} {cs : List Value} {y : DataW H × List MemPlace} (he : P.underlying e = some (.struct fs))
    (h : DataW.trod enc P w base spare held n e cs = some y) {i : Nat} {f : Field} (hf : fs[i]? = some f) {o : Nat} (ho : f.offset = o) (hc : P.cellsOf f.type = 1) (hi : o < cs.length) (hk : P.underlying f.type = some .string) : ∃ s : ByteArray, cs[o]? = some (.string s) ∧ s.size ≤ maxLen := by
  obtain ⟨v, m, y', _, hv, ht⟩ := sub_cell he h hf ho hc hi
  obtain ⟨s, hs, _, hw⟩ := DataW.trod_string hk ht
  cases hs
  exact ⟨s, hv, hw⟩
theorem sub_bool {e : TypeId} {fs : Array Field} {n : Nat} {cs : List Value} {y : DataW H × List MemPlace} (he : P.underlying e = some (.struct fs))
    (h : DataW.trod enc P w base spare held n e cs = some y) {i : Nat} {f : Field} (hf : fs[i]? = some f) {o : Nat} (ho : f.offset = o) (hc : P.cellsOf f.type = 1) (hi : o < cs.length) (hk : P.underlying f.type = some .bool) : ∃ b : Bool, cs[o]? = some (.bool b) := by
  obtain ⟨v, m, y', _, hv, ht⟩ := sub_cell he h hf ho hc hi
  obtain ⟨s, hs, _⟩ := DataW.trod_bool hk ht
  cases hs
  exact ⟨s, hv⟩
end
end Go.Proofs.Yteaanngagcflhaa
