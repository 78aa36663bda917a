/-
  Regions that draw their order, whose operations read and whose calls leave a world of a class. No condition.
-/
import Derived.Test.YteaanngagcflhaaCom
import Derived.Deep.QuietTactic
import Derived.BigQuiet
set_option linter.unusedVariables false
set_option linter.unusedSimpArgs false
namespace Go.Proofs.Yteaanngagcflhaa
open Go.RowKit

/-! ### a drawn region whose operations read, and whose calls leave a world of a class -/
structure Wd (G : World → Prop) where
  w : World
  h : G w
theorem wp_region_class {P : Program} {id : Nat} {Q : Exit → Act → World → Prop} {a : Act} {w : World} {l : List Oper} (G : World → Prop) (hm : P.follows .mixedOrders = true) (hB : Region.lexB .any l.toArray = true) (h0 : G w.drew)
    (h : Nonempty (Wd G) → wpQuiet P l.toArray (fun w' => ∃ x : Wd G, w' = x.w) (fun a' => ∀ w', G w' → Q .normal a' w') l a) : (Code.region id l.toArray true).wp P Q a w := by
  refine wp_region_quiet (C := fun w' => ∃ x : Wd G, w' = x.w) hm hB ⟨⟨w.drew, h0⟩, rfl⟩ ?_
  have key : (fun a' => ∀ w', (∃ x : Wd G, w' = x.w) → Q .normal a' w') = (fun a' => ∀ w', G w' → Q .normal a' w') := by
    funext a'
    refine propext ⟨fun h w' hw' => h w' ⟨⟨w', hw'⟩, rfl⟩, fun h w' hw' => ?_⟩
    obtain ⟨x, rfl⟩ := hw'
    exact h _ x.h
  rw [key]
  exact h ⟨⟨_, h0⟩⟩
/-- a contract met at a world of the class -/
theorem Calls.to_class {P : Program} {f : FuncId} {args : Array Value} {G : World → Prop} {x : Wd G} {v : Value} (h : Calls P f args x.w fun e w' => e = .returned v ∧ G w') :
    Calls P f args x.w fun e w'' => e = .returned v ∧ ∃ y : Wd G, w'' = y.w :=
  h.mono fun _ w' ⟨he, hg⟩ => ⟨he, ⟨w', hg⟩, rfl⟩
theorem Wd.on {B : Nat} {w w' : World} (x : Wd (Below B w)) (hB : B ≤ w.heap.size) (hb : Below x.w.heap.size x.w w') : Below B w w' := x.h.trans (hb.mono (Nat.le_trans hB x.h.size))

/-! ### struct parameters that were just boxed -/
theorem box1 (w : World) (cs : Array Value) (t : TypeId) : ∃ W, W = w.alloc (.cells cs t) ∧ Below w.heap.size w W ∧ w.heap.size < W.heap.size ∧ (∀ j u, cs.toList[j]? = some u → W.cell? ⟨w.heap.size, j, none⟩ = some u) ∧ (∀ j, W.frozen? ⟨w.heap.size, j, none⟩ = false) :=
  ⟨_, rfl, (Below.refl _ _).alloc (Nat.le_refl _) _, by simp, fun j u h => by have := cells_new w cs t w.heap.size j rfl u h; rw [add_mk, Nat.zero_add] at this; exact this, fun j => by simp⟩
theorem box2 (w : World) (cs : Array Value) (t : TypeId) (cs2 : Array Value) (t2 : TypeId) : ∃ W, W = (w.alloc (.cells cs t)).alloc (.cells cs2 t2) ∧ Below w.heap.size w W ∧ w.heap.size + 1 < W.heap.size ∧ (∀ j u, cs.toList[j]? = some u → W.cell? ⟨w.heap.size, j, none⟩ = some u) ∧ (∀ j u, cs2.toList[j]? = some u → W.cell? ⟨w.heap.size + 1, j, none⟩ = some u) ∧
    (∀ j, W.frozen? ⟨w.heap.size, j, none⟩ = false) ∧ (∀ j, W.frozen? ⟨w.heap.size + 1, j, none⟩ = false) := by
  have hb : Below (w.alloc (.cells cs t)).heap.size (w.alloc (.cells cs t)) ((w.alloc (.cells cs t)).alloc (.cells cs2 t2)) := (Below.refl _ _).alloc (Nat.le_refl _) _
  refine ⟨_, rfl, ((Below.refl _ _).alloc (Nat.le_refl _) _).alloc (by simp) _, by simp, fun j u h => ?_, fun j u h => ?_, fun j => ?_, fun j => ?_⟩
  · have h1 := cells_new w cs t w.heap.size j rfl u h
    rw [add_mk, Nat.zero_add] at h1
    exact (hb.cell (p := ⟨_, _, none⟩) (by simp)).trans h1
  · have h1 := cells_new (w.alloc (.cells cs t)) cs2 t2 (w.heap.size + 1) j (by simp) u h
    rw [add_mk, Nat.zero_add] at h1
    exact h1
  · exact (hb.frozen (p := ⟨_, _, none⟩) (by simp)).trans (by simp)
  · obtain ⟨_, rfl, _, _, _, hf⟩ := box1 (w.alloc (.cells cs t)) cs2 t2
    have := hf j
    simp at this ⊢
theorem below_wd {W w' : World} (z : Wd (Below W.heap.size W)) (hb : Below z.w.heap.size z.w w') : Below W.heap.size W w' := Wd.on z (Nat.le_refl _) hb
/-! ### a store -/
theorem set1 {w : World} (g o : Nat) {u v : Value} (h : w.cell? ⟨g, o, none⟩ = some v) : ∃ W, W = w.setCell ⟨g, o, none⟩ u ∧ W.cell? ⟨g, o, none⟩ = some u ∧ (∀ b o', (b ≠ g ∨ o' ≠ o) → W.cell? ⟨b, o', none⟩ = w.cell? ⟨b, o', none⟩) ∧
    (∀ b o', W.frozen? ⟨b, o', none⟩ = w.frozen? ⟨b, o', none⟩) ∧ (∀ B, B ≤ g → Below B w W) ∧ w.heap.size ≤ W.heap.size :=
  ⟨_, rfl, World.cell?_setCell_same _ _ _ h, fun b o' hne => World.cell?_setCell_other _ _ _ _ (fun e => by injection e with e1 e2; omega), fun b o' => World.frozen?_setCell _ _ _ _, fun B hB => (Below.refl _ _).setCell hB _, by simp [World.setCell]⟩
/-- cells that are there stay: said for every world of the class -/
theorem Wd.cells {B : Nat} {w : World} (x : Wd (Below B w)) : ∀ b o, b < B → x.w.cell? ⟨b, o, none⟩ = w.cell? ⟨b, o, none⟩ := fun b o h => x.h.cell (p := ⟨b, o, none⟩) h

end Go.Proofs.Yteaanngagcflhaa
