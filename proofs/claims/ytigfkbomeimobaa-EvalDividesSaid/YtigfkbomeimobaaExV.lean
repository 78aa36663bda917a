/-
  Expressions: the laws' own helpers. No condition.
-/
import Derived.Test.YtigfkbomeimobaaExU
import Derived.BigQuiet
import Derived.StillTailTactics
import Derived.Lib.Overlaps
import Derived.Deep.DeepCutAuto
import Derived.Deep.RegionWith
import Derived.Laws.Rows
set_option maxRecDepth 100000
set_option linter.unusedVariables false
set_option linter.unusedSimpArgs false
namespace Go.Proofs.Ytigfkbomeimobaa
open Go.RowKit

namespace Xp
theorem alloc_size (W : World) (o : Obj) : (W.alloc o).heap.size = W.heap.size + 1 := by simp
theorem alloc_lt (W : World) (o : Obj) : W.heap.size < (W.alloc o).heap.size := by rw [alloc_size]; omega
theorem heap_at2 (w : World) (A B C : Obj) : (((w.alloc A).alloc B).alloc C).heap[w.heap.size + 1]? = some B := by
  rw [heap_alloc_old _ _ (by rw [alloc_size, alloc_size]; omega)]
  exact heap_alloc2_new w A B
theorem heap_at3 (w : World) (A B C D : Obj) : ((((w.alloc A).alloc B).alloc C).alloc D).heap[w.heap.size + 1 + 1]? = some C := by
  rw [heap_alloc_old _ _ (by rw [alloc_size, alloc_size, alloc_size]; omega)]
  have := heap_alloc2_new (w.alloc A) B C
  rw [alloc_size] at this
  exact this

theorem num_any (n : Int) (w : World) : Calls Try.prog 23 #[.int .i64 n] w fun r w' => r = .returned (It.val ⟨1, n, ⟨#[]⟩, none, 0, 0⟩) ∧ Below w.heap.size w w' := by
  unfold It.val
  go_enter Try.func23, Try.ntmps23
  go_wp2_with fail
  refine bodyPost_ret (results_cell_row rfl _ _ _ _ _ _ _ rfl (heap_alloc_new _ _) rfl rfl rfl) rfl ?_
  exact ⟨rfl, (Below.refl _ _).alloc (Nat.le_refl _) _⟩
theorem name_any (t : ByteArray) (w : World) : Calls Try.prog 18 #[.string t] w fun r w' => r = .returned (It.val ⟨3, 0, t, none, 0, 0⟩) ∧ Below w.heap.size w w' := by
  unfold It.val
  go_enter Try.func18, Try.ntmps18
  go_wp2_with fail
  refine bodyPost_ret (results_cell_row rfl _ _ _ _ _ _ _ rfl (heap_alloc_new _ _) rfl rfl rfl) rfl ?_
  exact ⟨rfl, (Below.refl _ _).alloc (Nat.le_refl _) _⟩
/-- four blocks one behind the other: the fourth's cells -/
theorem at_new (W : World) (cs : Array Value) (t : TypeId) (j : Nat) (u : Value) (h : cs.toList[j]? = some u) : (W.alloc (.cells cs t)).cell? ⟨W.heap.size, j, none⟩ = some u := by
  have h1 := cells_new W cs t W.heap.size j rfl u h
  rw [add_mk, Nat.zero_add] at h1
  exact h1
theorem one_new (W : World) (op num : Int) (text : ByteArray) (t : TypeId) (a : Ex) (x : It) (ha : Rp W a x) :
    Rp (W.alloc (.cells #[.int .i64 x.op, .int .i64 x.num, .string x.text, .slice x.A x.n x.c] t)) (.mk op num text [a]) ⟨op, num, text, some ⟨W.heap.size, 0, none⟩, 1, 1⟩ := by
  refine Rp.one ⟨rfl, Nat.le_refl _, by decide, fun _ => ⟨W.heap.size, 0, rfl, alloc_lt _ _, fun i y hi j v hv => ?_⟩⟩ (fun h => by cases h) (ha.on ((Below.refl _ _).alloc (Nat.le_refl _) _))
  refine at_new W _ t _ v ?_
  cases i with
  | zero =>
    cases hi
    simpa [Flat.cells] using hv
  | succ i => simp at hi
theorem two_new (W : World) (op num : Int) (text : ByteArray) (t : TypeId) (a b : Ex) (x y : It) (ha : Rp W a x) (hb : Rp W b y) :
    Rp (W.alloc (.cells #[.int .i64 x.op, .int .i64 x.num, .string x.text, .slice x.A x.n x.c, .int .i64 y.op, .int .i64 y.num, .string y.text, .slice y.A y.n y.c] t)) (.mk op num text [a, b]) ⟨op, num, text, some ⟨W.heap.size, 0, none⟩, 2, 2⟩ := by
  have hk := (Below.refl W.heap.size W).alloc (Nat.le_refl _) (.cells #[.int .i64 x.op, .int .i64 x.num, .string x.text, .slice x.A x.n x.c, .int .i64 y.op, .int .i64 y.num, .string y.text, .slice y.A y.n y.c] t)
  refine Rp.two ⟨rfl, Nat.le_refl _, by decide, fun _ => ⟨W.heap.size, 0, rfl, alloc_lt _ _, fun i z hi j v hv => ?_⟩⟩ (fun h => by cases h) (ha.on hk) (hb.on hk)
  refine at_new W _ t _ v ?_
  match i with
  | 0 =>
    cases hi
    match j with
    | 0 => exact hv
    | 1 => exact hv
    | 2 => exact hv
    | 3 => exact hv
    | j + 4 => simp [Flat.cells] at hv
  | 1 =>
    cases hi
    match j with
    | 0 => exact hv
    | 1 => exact hv
    | 2 => exact hv
    | 3 => exact hv
    | j + 4 => simp [Flat.cells] at hv
  | i + 2 => simp at hi
theorem not_any (a : Ex) (x : It) (w : World) (ha : Rp w a x) : Calls Try.prog 21 #[x.val] w fun r w' => ∃ z, r = .returned (It.val z) ∧ Below w.heap.size w w' ∧ Rp w' (.mk 4 0 ⟨#[]⟩ [a]) z := by
  unfold It.val
  go_enter Try.func21, Try.ntmps21
  go_wp2_with fail
  refine bodyPost_ret (results_cell_row rfl _ _ _ _ _ _ _ rfl (heap_at2 _ _ _ _) rfl rfl rfl) rfl ?_
  have h2 : ∀ o1 o2, Below w.heap.size w ((w.alloc o1).alloc o2) := fun o1 o2 => ((Below.refl _ _).alloc (Nat.le_refl _) _).alloc (by simp only [alloc_size]; omega) _
  refine ⟨⟨4, 0, ⟨#[]⟩, some ⟨w.heap.size + 1 + 1, 0, none⟩, 1, 1⟩, rfl, (h2 _ _).alloc (by simp only [alloc_size]; omega) _, ?_⟩
  have h3 := one_new _ 4 0 ⟨#[]⟩ 24 a x (ha.on (h2 (.cells #[.int .i64 x.op, .int .i64 x.num, .string x.text, .slice x.A x.n x.c] 24) (.cells #[.int .i64 4, .int .i64 0, .string ⟨#[]⟩, .slice (some ⟨w.heap.size + 1 + 1, 0, none⟩) 1 1] 24)))
  rw [alloc_size, alloc_size] at h3
  exact h3
theorem two_any (op : Int) (a b : Ex) (x y : It) (w : World) (ha : Rp w a x) (hb : Rp w b y) : Calls Try.prog 19 #[.int .i64 op, x.val, y.val] w fun r w' => ∃ z, r = .returned (It.val z) ∧ Below w.heap.size w w' ∧ Rp w' (.mk op 0 ⟨#[]⟩ [a, b]) z := by
  unfold It.val
  go_enter Try.func19, Try.ntmps19
  go_wp2_with fail
  refine bodyPost_ret (results_cell_row rfl _ _ _ _ _ _ _ rfl (heap_at3 _ _ _ _ _) rfl rfl rfl) rfl ?_
  have h2 : ∀ o1 o2 o3, Below w.heap.size w (((w.alloc o1).alloc o2).alloc o3) := fun o1 o2 o3 => (((Below.refl _ _).alloc (Nat.le_refl _) _).alloc (by simp only [alloc_size]; omega) _).alloc (by simp only [alloc_size]; omega) _
  refine ⟨⟨op, 0, ⟨#[]⟩, some ⟨w.heap.size + 1 + 1 + 1, 0, none⟩, 2, 2⟩, rfl, (h2 _ _ _).alloc (by simp only [alloc_size]; omega) _, ?_⟩
  have h3 := two_new _ op 0 ⟨#[]⟩ 24 a b x y (ha.on (h2 (.cells #[.int .i64 x.op, .int .i64 x.num, .string x.text, .slice x.A x.n x.c] 24) (.cells #[.int .i64 y.op, .int .i64 y.num, .string y.text, .slice y.A y.n y.c] 24) (.cells #[.int .i64 op, .int .i64 0, .string ⟨#[]⟩, .slice (some ⟨w.heap.size + 1 + 1 + 1, 0, none⟩) 2 2] 24)))
    (hb.on (h2 (.cells #[.int .i64 x.op, .int .i64 x.num, .string x.text, .slice x.A x.n x.c] 24) (.cells #[.int .i64 y.op, .int .i64 y.num, .string y.text, .slice y.A y.n y.c] 24) (.cells #[.int .i64 op, .int .i64 0, .string ⟨#[]⟩, .slice (some ⟨w.heap.size + 1 + 1 + 1, 0, none⟩) 2 2] 24)))
  rw [alloc_size, alloc_size, alloc_size] at h3
  exact h3

end Xp
end Go.Proofs.Ytigfkbomeimobaa
