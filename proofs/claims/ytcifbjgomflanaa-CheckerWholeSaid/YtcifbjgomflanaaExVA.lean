/-
  Expressions: nodes just laid. No condition.
-/
import Derived.Test.YtcifbjgomflanaaExC
import Derived.Test.YtcifbjgomflanaaComB
import Derived.BigQuiet
import Derived.StillTailTactics
import Derived.Lib.Overlaps
import Derived.Deep.DeepCutAuto
import Derived.Deep.RegionWith
import Derived.Laws.Rows
set_option maxRecDepth 100000
set_option linter.unusedVariables false
set_option linter.unusedSimpArgs false
namespace Go.Proofs.Ytcifbjgomflanaa
open Go.RowKit

namespace Xp
theorem alloc_size (W : World) (o : Obj) : (W.alloc o).heap.size = W.heap.size + 1 := by simp
theorem alloc_lt (W : World) (o : Obj) : W.heap.size < (W.alloc o).heap.size := by rw [alloc_size]; omega
theorem heap_at2 (w : World) (A B C : Obj) : (((w.alloc A).alloc B).alloc C).heap[w.heap.size + 1]? = some B := by
  rw [heap_alloc_old _ _ (by rw [alloc_size, alloc_size]; omega)]
  exact heap_alloc2_new w A B
theorem heap_at3 (w : World) (A B C D : Obj) : ((((w.alloc A).alloc B).alloc C).alloc D).heap[w.heap.size + 1 + 1]? = some C := by
  rw [heap_alloc_old _ _ (by rw [alloc_size, alloc_size, alloc_size]; omega)]
  have := heap_alloc2_new (w.alloc A) B C
  rw [alloc_size] at this
  exact this
theorem at_new (W : World) (cs : Array Value) (t : TypeId) (j : Nat) (u : Value) (h : cs.toList[j]? = some u) : (W.alloc (.cells cs t)).cell? ⟨W.heap.size, j, none⟩ = some u := by
  have h1 := cells_new W cs t W.heap.size j rfl u h
  rw [add_mk, Nat.zero_add] at h1
  exact h1
theorem one_new (W : World) (op num : Int) (text : ByteArray) (t : TypeId) (a : Ex) (x : It) (ha : Rp W a x) :
    Rp (W.alloc (.cells #[.int .i64 x.op, .int .i64 x.num, .string x.text, .slice x.A x.n x.c] t)) (.mk op num text [a]) ⟨op, num, text, some ⟨W.heap.size, 0, none⟩, 1, 1⟩ := by
  refine Rp.one ⟨rfl, Nat.le_refl _, by decide, fun _ => ⟨W.heap.size, 0, rfl, alloc_lt _ _, fun i y hi j v hv => ?_⟩⟩ (fun h => by cases h) (ha.on ((Below.refl _ _).alloc (Nat.le_refl _) _))
  refine at_new W _ t _ v ?_
  cases i with
  | zero =>
    cases hi
    simpa [Flat.cells] using hv
  | succ i => simp at hi
theorem two_new (W : World) (op num : Int) (text : ByteArray) (t : TypeId) (a b : Ex) (x y : It) (ha : Rp W a x) (hb : Rp W b y) :
    Rp (W.alloc (.cells #[.int .i64 x.op, .int .i64 x.num, .string x.text, .slice x.A x.n x.c, .int .i64 y.op, .int .i64 y.num, .string y.text, .slice y.A y.n y.c] t)) (.mk op num text [a, b]) ⟨op, num, text, some ⟨W.heap.size, 0, none⟩, 2, 2⟩ := by
  have hk := (Below.refl W.heap.size W).alloc (Nat.le_refl _) (.cells #[.int .i64 x.op, .int .i64 x.num, .string x.text, .slice x.A x.n x.c, .int .i64 y.op, .int .i64 y.num, .string y.text, .slice y.A y.n y.c] t)
  refine Rp.two ⟨rfl, Nat.le_refl _, by decide, fun _ => ⟨W.heap.size, 0, rfl, alloc_lt _ _, fun i z hi j v hv => ?_⟩⟩ (fun h => by cases h) (ha.on hk) (hb.on hk)
  refine at_new W _ t _ v ?_
  match i with
  | 0 =>
    cases hi
    match j with
    | 0 => exact hv
    | 1 => exact hv
    | 2 => exact hv
    | 3 => exact hv
    | j + 4 => simp [Flat.cells] at hv
  | 1 =>
    cases hi
    match j with
    | 0 => exact hv
    | 1 => exact hv
    | 2 => exact hv
    | 3 => exact hv
    | j + 4 => simp [Flat.cells] at hv
  | i + 2 => simp at hi

end Xp
end Go.Proofs.Ytcifbjgomflanaa
