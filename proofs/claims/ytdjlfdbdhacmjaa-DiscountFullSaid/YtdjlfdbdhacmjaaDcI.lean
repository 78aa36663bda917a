/-
  Discounts: law Env. No condition.
-/
import Derived.Test.YtdjlfdbdhacmjaaDcH
import Derived.BigQuiet
import Derived.StillTailTactics
import Derived.Lib.Overlaps
import Derived.Deep.DeepCutAuto
import Derived.Deep.RegionWith
import Derived.Laws.Rows
set_option maxRecDepth 100000
set_option linter.unusedVariables false
set_option linter.unusedSimpArgs false
namespace Go.Proofs.Ytdjlfdbdhacmjaa
open Go.RowKit

namespace Dc
open Xp
def caseV (z b : ByteArray) (c : Ct) (f : Bool) : Value := .agg #[.string z, .string b, .int .i64 c.sub, .int .i64 c.kind, .int .i64 c.frm, .int .i64 c.units, .int .i64 c.spent, .bool f]
set_option maxHeartbeats 8000000 in
theorem law_env (u : Us) (z b : ByteArray) (c : Ct) (f : Bool) (w : World) : Calls Try.prog 3 #[u.val, caseV z b c f] w fun r w' => r = .returned (.bool true) ∧ Below w.heap.size w w' := by
  obtain ⟨e, he⟩ : ∃ e, envE u z b c f = e := ⟨_, rfl⟩
  have HE := Lib.hid he
  clear he
  obtain ⟨k0, k1, k2, k3, k4, k5, k6, k7, k8⟩ := e
  have q0 : (k0 == k0) = true := by simp
  have q1 : (k1 == k1) = true := by simp
  have q2 : (k2 == k2) = true := by simp
  have q3 : (k3 == k3) = true := by simp
  have q4 : (k4 == k4) = true := by simp
  have q5 : (k5 == k5) = true := by simp
  have q6 : (k6.toList == k6.toList) = true := by simp
  have q7 : (k7.toList == k7.toList) = true := by simp
  have q8 : (k8 == k8) = true := by simp
  unfold Us.val caseV
  go_enter Try.func3, Try.ntmps3
  go_upto_region 1 with (fail)
  (obtain ⟨W, hWW, hbW, hzW, f1W, f2W, pfa, pfb⟩ := box2 w #[.int .i64 u.id, .int .i64 u.kind, .int .i64 u.account, .int .i64 u.sub, .string u.a, .string u.b, .int .i64 u.start, .int .i64 u.units, .int .i64 u.trunk, .bool u.inbound, .int .i64 u.source, .int .i64 u.serial] 23 #[.string z, .string b, .int .i64 c.sub, .int .i64 c.kind, .int .i64 c.frm, .int .i64 c.units, .int .i64 c.spent, .bool f] 27; rw [← hWW]; have pa0 : W.cell? ⟨w.heap.size, 0, none⟩ = some (.int .i64 u.id) := f1W 0 _ rfl; have pa1 : W.cell? ⟨w.heap.size, 1, none⟩ = some (.int .i64 u.kind) := f1W 1 _ rfl; have pa2 : W.cell? ⟨w.heap.size, 2, none⟩ = some (.int .i64 u.account) := f1W 2 _ rfl; have pa3 : W.cell? ⟨w.heap.size, 3, none⟩ = some (.int .i64 u.sub) := f1W 3 _ rfl; have pa4 : W.cell? ⟨w.heap.size, 4, none⟩ = some (.string u.a) := f1W 4 _ rfl; have pa5 : W.cell? ⟨w.heap.size, 5, none⟩ = some (.string u.b) := f1W 5 _ rfl; have pa6 : W.cell? ⟨w.heap.size, 6, none⟩ = some (.int .i64 u.start) := f1W 6 _ rfl; have pa7 : W.cell? ⟨w.heap.size, 7, none⟩ = some (.int .i64 u.units) := f1W 7 _ rfl; have pa8 : W.cell? ⟨w.heap.size, 8, none⟩ = some (.int .i64 u.trunk) := f1W 8 _ rfl; have pa9 : W.cell? ⟨w.heap.size, 9, none⟩ = some (.bool u.inbound) := f1W 9 _ rfl; have pa10 : W.cell? ⟨w.heap.size, 10, none⟩ = some (.int .i64 u.source) := f1W 10 _ rfl; have pa11 : W.cell? ⟨w.heap.size, 11, none⟩ = some (.int .i64 u.serial) := f1W 11 _ rfl; have pb0 : W.cell? ⟨w.heap.size + 1, 0, none⟩ = some (.string z) := f2W 0 _ rfl; have pb1 : W.cell? ⟨w.heap.size + 1, 1, none⟩ = some (.string b) := f2W 1 _ rfl; have pb2 : W.cell? ⟨w.heap.size + 1, 2, none⟩ = some (.int .i64 c.sub) := f2W 2 _ rfl; have pb3 : W.cell? ⟨w.heap.size + 1, 3, none⟩ = some (.int .i64 c.kind) := f2W 3 _ rfl; have pb4 : W.cell? ⟨w.heap.size + 1, 4, none⟩ = some (.int .i64 c.frm) := f2W 4 _ rfl; have pb5 : W.cell? ⟨w.heap.size + 1, 5, none⟩ = some (.int .i64 c.units) := f2W 5 _ rfl; have pb6 : W.cell? ⟨w.heap.size + 1, 6, none⟩ = some (.int .i64 c.spent) := f2W 6 _ rfl; have pb7 : W.cell? ⟨w.heap.size + 1, 7, none⟩ = some (.bool f) := f2W 7 _ rfl; clear hWW f1W f2W)
  have hg0 : w.heap.size < W.heap.size := by omega
  have hg1 : w.heap.size + 1 < W.heap.size := hzW
  have hcr : ∀ z : Wd (Below W.heap.size W), ∀ b o, b < W.heap.size → z.w.cell? ⟨b, o, none⟩ = W.cell? ⟨b, o, none⟩ := fun z => z.cells
  ((with_reducible refine wp_region_class (Below W.heap.size W) ?_ ?_ ?_ ?_); kernel_rfl; kernel_rfl; (exact (Below.refl _ _).drew); (intro hnonemp); skip; (repeat (any_goals (first | go_big_quiet_step (((first | (go_at_call 9; (refine (env_any u z b c f _).mono ?_); rw [HE.out]; unfold Env.val; rintro e w' ⟨rfl, hb⟩; exact ⟨rfl, ⟨w', below_wd _ hb⟩, rfl⟩) | (go_at_call 10; (refine (refenv_any u z b c f _).mono ?_); rw [HE.out]; unfold Env.val; rintro e w' ⟨rfl, hb⟩; exact ⟨rfl, ⟨w', below_wd _ hb⟩, rfl⟩) | (go_at_call 11; (refine (awake_any _).mono ?_); rintro e w' ⟨rfl, hb⟩; exact ⟨rfl, ⟨w', below_wd _ hb⟩, rfl⟩)))) | (refine wpQuiet_step (fun K hK => ?_); go_simp; (first | (refine hK _ ?_; clear hK K) | (split <;> rename_i hg <;> (refine hK _ ?_; clear hK K) <;> (try simp only [Bool.not_eq_true] at hg) <;> (first | simp only [Int.not_lt.2 hg, decide_false] | simp only [Int.not_le.1 hg, decide_true] | simp only [hg, decide_true, decide_false] | skip)))))));  all_goals (refine wpQuiet_nil ?_; intro wq hgq))
  clear hcr
  go_wp2_with fail
  go_ret
  exact ⟨rfl, hbW.trans (hgq.mono (by omega))⟩
end Dc
end Go.Proofs.Ytdjlfdbdhacmjaa
