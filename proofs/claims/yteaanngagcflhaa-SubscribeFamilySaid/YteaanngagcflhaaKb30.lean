/-
  Customers: Sub and Account of the program. No condition.
-/
import Derived.Test.YteaanngagcflhaaKb18
import Derived.BigQuiet
import Derived.StillTailTactics
import Derived.Lib.Overlaps
import Derived.Deep.DeepCutAuto
import Derived.Deep.RegionWith
import Derived.Laws.RangeAny
set_option maxRecDepth 100000
set_option linter.unusedVariables false
set_option linter.unusedSimpArgs false
namespace Go.Proofs.Yteaanngagcflhaa
open Go.RowKit
namespace Cu
theorem results_cells2 {P : Program} {fn : Func} {p u : Tmp} {ty : TypeId} (h : fn.results = #[.cell p ty, .tmp u]) (tmps : Array Value) (w : World) (g : Nat) (cs : Array Value) (d : TypeDesc)
    (hp : tmps.getD p undef = .pointer (some ⟨g, 0, none⟩)) (hc : ∀ j v, cs.toList[j]? = some v → w.cell? ⟨g, j, none⟩ = some v)
    (hu : P.underlying ty = some d) (hd : (match d with | .struct _ | .array _ _ => true | _ => false) = true) (hi : (P.info? ty).map (·.size) = some cs.size) :
    (results fn tmps).run P w = .ok (.tuple #[.agg cs, tmps.getD u undef]) w := by
  have hl : (loadCells ⟨g, 0, none⟩ cs.toList.length).run P w = .ok cs.toList.toArray w :=
    run_loadCells_list (P := P) w ⟨g, 0, none⟩ cs.toList (fun j v hv => by
      have hadd : (⟨g, 0, none⟩ : Addr).add j = ⟨g, j, none⟩ := by unfold Addr.add; split <;> simp_all
      rw [hadd]
      exact hc j v hv)
  cases hq : P.info? ty with
  | none => simp [hq] at hi
  | some i =>
    have hs : i.size = cs.size := by simpa [hq] using hi
    have hagg : (isAgg ty).run P w = .ok true w := by
      unfold isAgg
      rw [Sem.run_bind, run_underlying hu w]
      cases d <;> simp_all
    simp only [Array.length_toList, Array.toArray_toList] at hl
    have hrow : (loadVar ty ⟨g, 0, none⟩).run P w = .ok (.agg cs) w := by
      simp [loadVar, Sem.run_bind, hagg, sizeOf, typeInfo, hq, hs, hl]
    rw [results_cell_tmp h, hp]
    simp [asAddr, hrow, Result.andThen]
theorem six {w : World} {g : Nat} {v0 v1 v2 v3 v4 v5 : Value} (h0 : w.cell? ⟨g, 0, none⟩ = some v0) (h1 : w.cell? ⟨g, 1, none⟩ = some v1) (h2 : w.cell? ⟨g, 2, none⟩ = some v2) (h3 : w.cell? ⟨g, 3, none⟩ = some v3) (h4 : w.cell? ⟨g, 4, none⟩ = some v4) (h5 : w.cell? ⟨g, 5, none⟩ = some v5) :
    ∀ j u, [v0, v1, v2, v3, v4, v5][j]? = some u → w.cell? ⟨g, 0 + j, none⟩ = some u := fun j u hu => by
  match j, hu with
  | 0, hu => cases hu; exact h0
  | 1, hu => cases hu; exact h1
  | 2, hu => cases hu; exact h2
  | 3, hu => cases hu; exact h3
  | 4, hu => cases hu; exact h4
  | 5, hu => cases hu; exact h5
theorem findNone {α : Type} {p : α → Bool} {l : List α} (h : ∀ (m : Nat) y, l[m]? = some y → p y = false) : l.find? p = none := by
  rw [List.find?_eq_none]
  intro x hx
  obtain ⟨m, hm⟩ := List.getElem?_of_mem hx
  rw [h m x hm]; decide
theorem findAt {α : Type} {p : α → Bool} : ∀ {l : List α} {k : Nat} {x : α}, l[k]? = some x → p x = true → (∀ (m : Nat) y, m < k → l[m]? = some y → p y = false) → l.find? p = some x
  | [], k, x, h, _, _ => by simp at h
  | b :: l, 0, x, h, hp, _ => by cases h; rw [List.find?_cons_of_pos hp]
  | b :: l, k + 1, x, h, hp, hn => by
    rw [List.find?_cons_of_neg (by rw [hn 0 b (by omega) rfl]; decide)]
    exact findAt (l := l) (k := k) (by simpa using h) hp fun m y hm hy => hn (m + 1) y (by omega) (by simpa using hy)
theorem old8 {w : World} {R : Nat} {s : Sb} (h : NeS s.nums ∧ NeS s.prods) (h0 : w.cell? ⟨R, 0, none⟩ = some (.int .i64 0)) (h1 : w.cell? ⟨R, 1, none⟩ = some (.int .i64 0)) (h2 : w.cell? ⟨R, 2, none⟩ = some (.int .i64 0)) (h3 : w.cell? ⟨R, 3, none⟩ = some (.string ⟨#[]⟩)) (h4 : w.cell? ⟨R, 4, none⟩ = some (.slice none 0 0)) (h5 : w.cell? ⟨R, 5, none⟩ = some (.slice none 0 0)) (h6 : w.cell? ⟨R, 6, none⟩ = some (.bool false)) (h7 : w.cell? ⟨R, 7, none⟩ = some (.bool false)) :
    ∀ j, j < 8 → ∃ old, w.cell? ⟨R, 0 + j, none⟩ = some old ∧ (∀ x ∈ s.nums, old ≠ .string x) ∧ ∀ x ∈ s.prods, old ≠ .string x := fun j hj => by
  have hs : ∀ l : List ByteArray, NeS l → ∀ x ∈ l, Value.string ⟨#[]⟩ ≠ .string x := fun l hl x hx e => hl x hx (by injection e with e; exact e.symm)
  have hj' : j = 0 ∨ j = 1 ∨ j = 2 ∨ j = 3 ∨ j = 4 ∨ j = 5 ∨ j = 6 ∨ j = 7 := by omega
  rcases hj' with rfl | rfl | rfl | rfl | rfl | rfl | rfl | rfl
  · exact ⟨_, h0, fun _ _ e => (by cases e), fun _ _ e => (by cases e)⟩
  · exact ⟨_, h1, fun _ _ e => (by cases e), fun _ _ e => (by cases e)⟩
  · exact ⟨_, h2, fun _ _ e => (by cases e), fun _ _ e => (by cases e)⟩
  · exact ⟨_, h3, hs _ h.1, hs _ h.2⟩
  · exact ⟨_, h4, fun _ _ e => (by cases e), fun _ _ e => (by cases e)⟩
  · exact ⟨_, h5, fun _ _ e => (by cases e), fun _ _ e => (by cases e)⟩
  · exact ⟨_, h6, fun _ _ e => (by cases e), fun _ _ e => (by cases e)⟩
  · exact ⟨_, h7, fun _ _ e => (by cases e), fun _ _ e => (by cases e)⟩
theorem fld1 (A1 : Option Addr) (n1 c1 : Nat) (A2 : Option Addr) (n2 c2 : Nat) (W : World) : (Instr.field 32 (.agg #[.slice A1 n1 c1, .slice A2 n2 c2]) 1).run Try.prog W = .ok (.slice A2 n2 c2) W := by kernel_rfl
end Cu
end Go.Proofs.Yteaanngagcflhaa
