/-
  Regions that draw their order, whose operations read and whose calls leave a world of a class. No condition.
-/
import Derived.Test.YtohcdkkneikjmaaCom
import Derived.Deep.QuietTactic
import Derived.BigQuiet
set_option linter.unusedVariables false
set_option linter.unusedSimpArgs false
namespace Go.Proofs.Ytohcdkkneikjmaa
open Go.RowKit

/-! ### a drawn region whose operations read, and whose calls leave a world of a class -/
structure Wd (G : World → Prop) where
  w : World
  h : G w
theorem wp_region_class {P : Program} {id : Nat} {Q : Exit → Act → World → Prop} {a : Act} {w : World} {l : List Oper} (G : World → Prop) (hm : P.follows .mixedOrders = true) (hB : Region.lexB .any l.toArray = true) (h0 : G w.drew)
    (h : Nonempty (Wd G) → wpQuiet P l.toArray (fun w' => ∃ x : Wd G, w' = x.w) (fun a' => ∀ w', G w' → Q .normal a' w') l a) : (Code.region id l.toArray true).wp P Q a w := by
  refine wp_region_quiet (C := fun w' => ∃ x : Wd G, w' = x.w) hm hB ⟨⟨w.drew, h0⟩, rfl⟩ ?_
  have key : (fun a' => ∀ w', (∃ x : Wd G, w' = x.w) → Q .normal a' w') = (fun a' => ∀ w', G w' → Q .normal a' w') := by
    funext a'
    refine propext ⟨fun h w' hw' => h w' ⟨⟨w', hw'⟩, rfl⟩, fun h w' hw' => ?_⟩
    obtain ⟨x, rfl⟩ := hw'
    exact h _ x.h
  rw [key]
  exact h ⟨⟨_, h0⟩⟩
/-- a contract met at a world of the class -/
theorem Calls.to_class {P : Program} {f : FuncId} {args : Array Value} {G : World → Prop} {x : Wd G} {v : Value} (h : Calls P f args x.w fun e w' => e = .returned v ∧ G w') :
    Calls P f args x.w fun e w'' => e = .returned v ∧ ∃ y : Wd G, w'' = y.w :=
  h.mono fun _ w' ⟨he, hg⟩ => ⟨he, ⟨w', hg⟩, rfl⟩
theorem Wd.on {B : Nat} {w w' : World} (x : Wd (Below B w)) (hB : B ≤ w.heap.size) (hb : Below x.w.heap.size x.w w') : Below B w w' := x.h.trans (hb.mono (Nat.le_trans hB x.h.size))

end Go.Proofs.Ytohcdkkneikjmaa
