/-
  Discounts: always, Env. No condition.
-/
import Derived.Test.YtdjlfdbdhacmjaaDcC
import Derived.BigQuiet
import Derived.StillTailTactics
import Derived.Lib.Overlaps
import Derived.Deep.DeepCutAuto
import Derived.Deep.RegionWith
import Derived.Laws.Rows
set_option maxRecDepth 100000
set_option linter.unusedVariables false
set_option linter.unusedSimpArgs false
namespace Go.Proofs.Ytdjlfdbdhacmjaa
open Go.RowKit

namespace Dc
open Xp
abbrev Lf (op num : Int) (t : ByteArray) : Ex := .mk op num t []
abbrev Tw (op : Int) (a b : Ex) : Ex := .mk op 0 ⟨#[]⟩ [a, b]
abbrev Nn (e : Ex) : Ex := .mk 4 0 ⟨#[]⟩ [e]
abbrev alw : Ex := Tw 7 (Lf 1 0 ⟨#[]⟩) (Lf 1 0 ⟨#[]⟩)
theorem weekday_any (d : Int) (w : World) (h : 0 ≤ d ∧ d < 146097) : Calls Try.prog 18 #[.int .i64 d] w fun r w' => r = .returned (.int .i64 ((d + 5) % 7)) ∧ w = w' := by
  obtain ⟨h1, h2⟩ := h
  have a1 : ¬ d < 0 := by omega
  have a2 : ¬ 146097 ≤ d := by omega
  have a3 : IntKind.i64.wrap (d + 5) = d + 5 := IntWalk.i64_in _ (by omega)
  have a4 : 0 ≤ d + 5 := by omega
  go_enter Try.func18, Try.ntmps18
  go_wp2_with fail
  go_ret
  exact ⟨by first | rfl | exact ret_int (by rw [Int.tmod_eq_emod_of_nonneg (by omega)]), rfl⟩
structure Us where
  id : Int
  kind : Int
  account : Int
  sub : Int
  a : ByteArray
  b : ByteArray
  start : Int
  units : Int
  trunk : Int
  inbound : Bool
  source : Int
  serial : Int
def Us.val (u : Us) : Value := .agg #[.int .i64 u.id, .int .i64 u.kind, .int .i64 u.account, .int .i64 u.sub, .string u.a, .string u.b, .int .i64 u.start, .int .i64 u.units, .int .i64 u.trunk, .bool u.inbound, .int .i64 u.source, .int .i64 u.serial]
structure Ct where
  sub : Int
  kind : Int
  frm : Int
  units : Int
  spent : Int
def Ct.val (c : Ct) : Value := .agg #[.int .i64 c.sub, .int .i64 c.kind, .int .i64 c.frm, .int .i64 c.units, .int .i64 c.spent]
def envE (u : Us) (z b : ByteArray) (c : Ct) (f : Bool) : Env :=
  if 0 ≤ u.start ∧ u.start < 12622780800 then ⟨u.kind, u.units, (u.start / 86400 + 5) % 7, u.start % 86400 / 60, c.units, c.spent, z, b, f⟩ else ⟨u.kind, u.units, -1, 0, c.units, c.spent, z, b, f⟩
theorem heap_first (w : World) (A B : Obj) : ((w.alloc A).alloc B).heap[w.heap.size]? = some A := by
  rw [heap_alloc_old _ _ (by rw [alloc_size]; omega)]
  exact heap_alloc_new w A
set_option maxHeartbeats 4000000 in
theorem always_any (w : World) : Calls Try.prog 16 #[] w fun r w' => ∃ z, r = .returned (It.val z) ∧ Below w.heap.size w w' ∧ Rp w' alw z := by
  unfold It.val
  go_enter Try.func16, Try.ntmps16
  go_wp2_with fail
  refine bodyPost_ret (results_cell_row rfl _ _ _ _ _ _ _ rfl (heap_first _ _ _) rfl rfl rfl) rfl ?_
  refine ⟨⟨7, 0, ⟨#[]⟩, some ⟨w.heap.size + 1, 0, none⟩, 2, 2⟩, rfl, ((Below.refl _ _).alloc (Nat.le_refl _) _).alloc (by rw [alloc_size]; omega) _, ?_⟩
  have h3 := two_new (w.alloc (.cells #[.int .i64 7, .int .i64 0, .string ⟨#[]⟩, .slice (some ⟨w.heap.size + 1, 0, none⟩) 2 2] 45)) 7 0 ⟨#[]⟩ 45 _ _ ⟨1, 0, ⟨#[]⟩, none, 0, 0⟩ ⟨1, 0, ⟨#[]⟩, none, 0, 0⟩ (Rp.leaf _ 1 0 ⟨#[]⟩) (Rp.leaf _ 1 0 ⟨#[]⟩)
  rw [alloc_size] at h3
  exact h3
end Dc
end Go.Proofs.Ytdjlfdbdhacmjaa
