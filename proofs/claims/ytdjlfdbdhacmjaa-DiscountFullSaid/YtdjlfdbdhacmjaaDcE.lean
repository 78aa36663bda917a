/-
  Discounts: both Env. No condition.
-/
import Derived.Test.YtdjlfdbdhacmjaaDcD
import Derived.BigQuiet
import Derived.StillTailTactics
import Derived.Lib.Overlaps
import Derived.Deep.DeepCutAuto
import Derived.Deep.RegionWith
import Derived.Laws.Rows
set_option maxRecDepth 100000
set_option linter.unusedVariables false
set_option linter.unusedSimpArgs false
namespace Go.Proofs.Ytdjlfdbdhacmjaa
open Go.RowKit

namespace Dc
open Xp
theorem box3 (w : World) (cs : Array Value) (t : TypeId) (cs2 : Array Value) (t2 : TypeId) (cs3 : Array Value) (t3 : TypeId) : ∃ W, W = ((w.alloc (.cells cs t)).alloc (.cells cs2 t2)).alloc (.cells cs3 t3) ∧ Below w.heap.size w W ∧ w.heap.size + 1 + 1 < W.heap.size ∧ (∀ j u, cs.toList[j]? = some u → W.cell? ⟨w.heap.size, j, none⟩ = some u) ∧ (∀ j u, cs2.toList[j]? = some u → W.cell? ⟨w.heap.size + 1, j, none⟩ = some u) ∧ (∀ j u, cs3.toList[j]? = some u → W.cell? ⟨w.heap.size + 1 + 1, j, none⟩ = some u) ∧ (∀ j, W.frozen? ⟨w.heap.size + 1 + 1, j, none⟩ = false) ∧ W.heap[w.heap.size + 1 + 1]? = some (.cells cs3 t3) := by
  obtain ⟨W2, h2, b2, z2, c1, c2, _, _⟩ := box2 w cs t cs2 t2
  obtain ⟨W3, h3, b3, z3, c3, r3⟩ := box1 W2 cs3 t3
  have hs : W2.heap.size = w.heap.size + 1 + 1 := by rw [h2]; simp
  have hh : W3.heap[W2.heap.size]? = some (.cells cs3 t3) := by rw [h3]; exact heap_alloc_new W2 _
  rw [hs] at c3 z3 r3 hh
  refine ⟨W3, by rw [h3, h2], b2.trans (b3.mono (by omega)), z3, fun j u h => ?_, fun j u h => ?_, c3, r3, hh⟩
  · exact (b3.cell (p := ⟨_, _, none⟩) (by dsimp only; omega)).trans (c1 j u h)
  · exact (b3.cell (p := ⟨_, _, none⟩) (by dsimp only; omega)).trans (c2 j u h)
theorem bset {w : World} {g : Nat} {l : List Value} {t : TypeId} (h : w.heap[g]? = some (.cells ⟨l⟩ t)) (j : Nat) (u : Value) (l2 : List Value) (e : l.set j u = l2) : (w.setCell ⟨g, j, none⟩ u).heap[g]? = some (.cells ⟨l2⟩ t) := by
  have h1 := blk_setCell h j u
  rw [List.setIfInBounds_toArray, e] at h1
  exact h1
theorem put9 {w : World} {g : Nat} {t : TypeId} {a0 a1 a2 a3 a4 a5 a6 a7 a8 b0 b1 b2 b3 b4 b5 b6 b7 b8 : Value} (h : w.heap[g]? = some (.cells #[a0, a1, a2, a3, a4, a5, a6, a7, a8] t)) :
    (((((((((w.setCell ⟨g, 0, none⟩ b0).setCell ⟨g, 1, none⟩ b1).setCell ⟨g, 2, none⟩ b2).setCell ⟨g, 3, none⟩ b3).setCell ⟨g, 4, none⟩ b4).setCell ⟨g, 5, none⟩ b5).setCell ⟨g, 6, none⟩ b6).setCell ⟨g, 7, none⟩ b7).setCell ⟨g, 8, none⟩ b8).heap[g]? = some (.cells #[b0, b1, b2, b3, b4, b5, b6, b7, b8] t) := by
  replace h := bset h 0 b0 [b0, a1, a2, a3, a4, a5, a6, a7, a8] rfl
  replace h := bset h 1 b1 [b0, b1, a2, a3, a4, a5, a6, a7, a8] rfl
  replace h := bset h 2 b2 [b0, b1, b2, a3, a4, a5, a6, a7, a8] rfl
  replace h := bset h 3 b3 [b0, b1, b2, b3, a4, a5, a6, a7, a8] rfl
  replace h := bset h 4 b4 [b0, b1, b2, b3, b4, a5, a6, a7, a8] rfl
  replace h := bset h 5 b5 [b0, b1, b2, b3, b4, b5, a6, a7, a8] rfl
  replace h := bset h 6 b6 [b0, b1, b2, b3, b4, b5, b6, a7, a8] rfl
  replace h := bset h 7 b7 [b0, b1, b2, b3, b4, b5, b6, b7, a8] rfl
  replace h := bset h 8 b8 [b0, b1, b2, b3, b4, b5, b6, b7, b8] rfl
  exact h
theorem put9_below {w : World} {g B : Nat} (hB : B ≤ g) {b0 b1 b2 b3 b4 b5 b6 b7 b8 : Value} :
    Below B w ((((((((((w.setCell ⟨g, 0, none⟩ b0).setCell ⟨g, 1, none⟩ b1).setCell ⟨g, 2, none⟩ b2).setCell ⟨g, 3, none⟩ b3).setCell ⟨g, 4, none⟩ b4).setCell ⟨g, 5, none⟩ b5).setCell ⟨g, 6, none⟩ b6).setCell ⟨g, 7, none⟩ b7).setCell ⟨g, 8, none⟩ b8)) :=
  (((((((((Below.refl B w).setCell hB _).setCell hB _).setCell hB _).setCell hB _).setCell hB _).setCell hB _).setCell hB _).setCell hB _).setCell hB _
set_option maxHeartbeats 8000000 in
theorem env_any (u : Us) (z b : ByteArray) (c : Ct) (f : Bool) (w : World) : Calls Try.prog 9 #[u.val, .string z, .string b, c.val, .bool f] w fun r w' => r = .returned (envE u z b c f).val ∧ Below w.heap.size w w' := by
  unfold Us.val Ct.val
  by_cases h : 0 ≤ u.start ∧ u.start < 12622780800
  · have HE := Lib.hid (show envE u z b c f = ⟨u.kind, u.units, (u.start / 86400 + 5) % 7, u.start % 86400 / 60, c.units, c.spent, z, b, f⟩ by unfold envE; rw [if_pos h])
    obtain ⟨h1, h2⟩ := h
    have a1 : ¬ u.start < 0 := by omega
    have a2 : ¬ 12622780800 ≤ u.start := by omega
    go_enter Try.func9, Try.ntmps9
    go_upto_region 1 with (fail)
    obtain ⟨W, hW, hT, hzW, f1, f2, f3, hrf, hres⟩ := box3 w #[.int .i64 u.id, .int .i64 u.kind, .int .i64 u.account, .int .i64 u.sub, .string u.a, .string u.b, .int .i64 u.start, .int .i64 u.units, .int .i64 u.trunk, .bool u.inbound, .int .i64 u.source, .int .i64 u.serial] 23 #[.int .i64 c.sub, .int .i64 c.kind, .int .i64 c.frm, .int .i64 c.units, .int .i64 c.spent] 25 #[.int .i64 0, .int .i64 0, .int .i64 0, .int .i64 0, .int .i64 0, .int .i64 0, .string ⟨#[]⟩, .string ⟨#[]⟩, .bool false] 29
    rw [← hW]
    have ua1 : W.cell? ⟨w.heap.size, 1, none⟩ = some (.int .i64 u.kind) := f1 1 _ rfl
    have ua6 : W.cell? ⟨w.heap.size, 6, none⟩ = some (.int .i64 u.start) := f1 6 _ rfl
    have ua7 : W.cell? ⟨w.heap.size, 7, none⟩ = some (.int .i64 u.units) := f1 7 _ rfl
    have ca3 : W.cell? ⟨w.heap.size + 1, 3, none⟩ = some (.int .i64 c.units) := f2 3 _ rfl
    have ca4 : W.cell? ⟨w.heap.size + 1, 4, none⟩ = some (.int .i64 c.spent) := f2 4 _ rfl
    have ra0 : W.cell? ⟨w.heap.size + 1 + 1, 0, none⟩ = some (.int .i64 0) := f3 0 _ rfl
    have ra1 : W.cell? ⟨w.heap.size + 1 + 1, 1, none⟩ = some (.int .i64 0) := f3 1 _ rfl
    have ra2 : W.cell? ⟨w.heap.size + 1 + 1, 2, none⟩ = some (.int .i64 0) := f3 2 _ rfl
    have ra3 : W.cell? ⟨w.heap.size + 1 + 1, 3, none⟩ = some (.int .i64 0) := f3 3 _ rfl
    have ra4 : W.cell? ⟨w.heap.size + 1 + 1, 4, none⟩ = some (.int .i64 0) := f3 4 _ rfl
    have ra5 : W.cell? ⟨w.heap.size + 1 + 1, 5, none⟩ = some (.int .i64 0) := f3 5 _ rfl
    have ra6 : W.cell? ⟨w.heap.size + 1 + 1, 6, none⟩ = some (.string ⟨#[]⟩) := f3 6 _ rfl
    have ra7 : W.cell? ⟨w.heap.size + 1 + 1, 7, none⟩ = some (.string ⟨#[]⟩) := f3 7 _ rfl
    have ra8 : W.cell? ⟨w.heap.size + 1 + 1, 8, none⟩ = some (.bool false) := f3 8 _ rfl
    clear hW f1 f2 f3
    have hg0 : w.heap.size < W.heap.size := by omega
    have hg1 : w.heap.size + 1 < W.heap.size := by omega
    have hg2 : w.heap.size + 1 + 1 < W.heap.size := hzW
    go_upto_region 2 with (fail)
    (obtain ⟨V, hWV, hbV, hzV, f1V, efa⟩ := box1 W #[.int .i64 u.kind, .int .i64 u.units, .int .i64 (-1), .int .i64 0, .int .i64 c.units, .int .i64 c.spent, .string z, .string b, .bool f] 29; rw [← hWV]; have ea0 : V.cell? ⟨W.heap.size, 0, none⟩ = some (.int .i64 u.kind) := f1V 0 _ rfl; have ea1 : V.cell? ⟨W.heap.size, 1, none⟩ = some (.int .i64 u.units) := f1V 1 _ rfl; have ea2 : V.cell? ⟨W.heap.size, 2, none⟩ = some (.int .i64 (-1)) := f1V 2 _ rfl; have ea3 : V.cell? ⟨W.heap.size, 3, none⟩ = some (.int .i64 0) := f1V 3 _ rfl; have ea4 : V.cell? ⟨W.heap.size, 4, none⟩ = some (.int .i64 c.units) := f1V 4 _ rfl; have ea5 : V.cell? ⟨W.heap.size, 5, none⟩ = some (.int .i64 c.spent) := f1V 5 _ rfl; have ea6 : V.cell? ⟨W.heap.size, 6, none⟩ = some (.string z) := f1V 6 _ rfl; have ea7 : V.cell? ⟨W.heap.size, 7, none⟩ = some (.string b) := f1V 7 _ rfl; have ea8 : V.cell? ⟨W.heap.size, 8, none⟩ = some (.bool f) := f1V 8 _ rfl; clear hWV f1V)
    (have hzhbV := hbV.size; replace ua1 := (hbV.cell (p := ⟨_, _, none⟩) (by (try dsimp only) <;> omega)).trans ua1; replace ua6 := (hbV.cell (p := ⟨_, _, none⟩) (by (try dsimp only) <;> omega)).trans ua6; replace ua7 := (hbV.cell (p := ⟨_, _, none⟩) (by (try dsimp only) <;> omega)).trans ua7; replace ca3 := (hbV.cell (p := ⟨_, _, none⟩) (by (try dsimp only) <;> omega)).trans ca3; replace ca4 := (hbV.cell (p := ⟨_, _, none⟩) (by (try dsimp only) <;> omega)).trans ca4; replace ra0 := (hbV.cell (p := ⟨_, _, none⟩) (by (try dsimp only) <;> omega)).trans ra0; replace ra1 := (hbV.cell (p := ⟨_, _, none⟩) (by (try dsimp only) <;> omega)).trans ra1; replace ra2 := (hbV.cell (p := ⟨_, _, none⟩) (by (try dsimp only) <;> omega)).trans ra2; replace ra3 := (hbV.cell (p := ⟨_, _, none⟩) (by (try dsimp only) <;> omega)).trans ra3; replace ra4 := (hbV.cell (p := ⟨_, _, none⟩) (by (try dsimp only) <;> omega)).trans ra4; replace ra5 := (hbV.cell (p := ⟨_, _, none⟩) (by (try dsimp only) <;> omega)).trans ra5; replace ra6 := (hbV.cell (p := ⟨_, _, none⟩) (by (try dsimp only) <;> omega)).trans ra6; replace ra7 := (hbV.cell (p := ⟨_, _, none⟩) (by (try dsimp only) <;> omega)).trans ra7; replace ra8 := (hbV.cell (p := ⟨_, _, none⟩) (by (try dsimp only) <;> omega)).trans ra8; replace hT := Below.trans hT (Below.mono hbV (by omega)))
    replace hres := (hbV.block _ (by omega)).trans hres
    replace hrf := fun j => (hbV.frozen (p := ⟨_, j, none⟩) (by dsimp only; omega)).trans (hrf j)
    replace hg0 : w.heap.size < V.heap.size := by omega
    replace hg1 : w.heap.size + 1 < V.heap.size := by omega
    replace hg2 : w.heap.size + 1 + 1 < V.heap.size := by omega
    have hgV : W.heap.size < V.heap.size := hzV
    go_upto_region 5 with (fail)
    obtain ⟨U, hWU, hbU, hzU, f1U, -⟩ := box1 V #[.int .i64 86400, .int .i64 60] 53
    rw [← hWU]
    have da0 : U.cell? ⟨V.heap.size, 0, none⟩ = some (.int .i64 86400) := f1U 0 _ rfl
    have da1 : U.cell? ⟨V.heap.size, 1, none⟩ = some (.int .i64 60) := f1U 1 _ rfl
    clear hWU f1U
    replace ea0 := (hbU.cell (p := ⟨_, _, none⟩) (by dsimp only; omega)).trans ea0
    replace ea1 := (hbU.cell (p := ⟨_, _, none⟩) (by dsimp only; omega)).trans ea1
    replace ea2 := (hbU.cell (p := ⟨_, _, none⟩) (by dsimp only; omega)).trans ea2
    replace ea3 := (hbU.cell (p := ⟨_, _, none⟩) (by dsimp only; omega)).trans ea3
    replace ea4 := (hbU.cell (p := ⟨_, _, none⟩) (by dsimp only; omega)).trans ea4
    replace ea5 := (hbU.cell (p := ⟨_, _, none⟩) (by dsimp only; omega)).trans ea5
    replace ea6 := (hbU.cell (p := ⟨_, _, none⟩) (by dsimp only; omega)).trans ea6
    replace ea7 := (hbU.cell (p := ⟨_, _, none⟩) (by dsimp only; omega)).trans ea7
    replace ea8 := (hbU.cell (p := ⟨_, _, none⟩) (by dsimp only; omega)).trans ea8
    replace efa := fun j => (hbU.frozen (p := ⟨_, j, none⟩) (by dsimp only; omega)).trans (efa j)
    (have hzhbU := hbU.size; replace ua1 := (hbU.cell (p := ⟨_, _, none⟩) (by (try dsimp only) <;> omega)).trans ua1; replace ua6 := (hbU.cell (p := ⟨_, _, none⟩) (by (try dsimp only) <;> omega)).trans ua6; replace ua7 := (hbU.cell (p := ⟨_, _, none⟩) (by (try dsimp only) <;> omega)).trans ua7; replace ca3 := (hbU.cell (p := ⟨_, _, none⟩) (by (try dsimp only) <;> omega)).trans ca3; replace ca4 := (hbU.cell (p := ⟨_, _, none⟩) (by (try dsimp only) <;> omega)).trans ca4; replace ra0 := (hbU.cell (p := ⟨_, _, none⟩) (by (try dsimp only) <;> omega)).trans ra0; replace ra1 := (hbU.cell (p := ⟨_, _, none⟩) (by (try dsimp only) <;> omega)).trans ra1; replace ra2 := (hbU.cell (p := ⟨_, _, none⟩) (by (try dsimp only) <;> omega)).trans ra2; replace ra3 := (hbU.cell (p := ⟨_, _, none⟩) (by (try dsimp only) <;> omega)).trans ra3; replace ra4 := (hbU.cell (p := ⟨_, _, none⟩) (by (try dsimp only) <;> omega)).trans ra4; replace ra5 := (hbU.cell (p := ⟨_, _, none⟩) (by (try dsimp only) <;> omega)).trans ra5; replace ra6 := (hbU.cell (p := ⟨_, _, none⟩) (by (try dsimp only) <;> omega)).trans ra6; replace ra7 := (hbU.cell (p := ⟨_, _, none⟩) (by (try dsimp only) <;> omega)).trans ra7; replace ra8 := (hbU.cell (p := ⟨_, _, none⟩) (by (try dsimp only) <;> omega)).trans ra8; replace hT := Below.trans hT (Below.mono hbU (by omega)))
    replace hres := (hbU.block _ (by omega)).trans hres
    replace hrf := fun j => (hbU.frozen (p := ⟨_, j, none⟩) (by dsimp only; omega)).trans (hrf j)
    replace hg0 : w.heap.size < U.heap.size := by omega
    replace hg1 : w.heap.size + 1 < U.heap.size := by omega
    replace hg2 : w.heap.size + 1 + 1 < U.heap.size := by omega
    replace hgV : W.heap.size < U.heap.size := by omega
    have hgU : V.heap.size < U.heap.size := hzU
    go_wp2_with fail
    refine (weekday_any (u.start / 86400) _ ⟨by omega, by omega⟩).mono ?_
    rintro r w' ⟨rfl, rfl⟩
    go_upto_region 6 with (fail)
    obtain ⟨U2, hS, hn, hfar, hfr, hbl, hsz⟩ := set1 W.heap.size 2 (u := .int .i64 ((u.start / 86400 + 5) % 7)) ea2
    rw [← hS]
    clear hS
    replace hT := hT.trans (hbl _ (by omega))
    replace ua1 := (hfar w.heap.size 1 (by omega)).trans ua1
    replace ua6 := (hfar w.heap.size 6 (by omega)).trans ua6
    replace ua7 := (hfar w.heap.size 7 (by omega)).trans ua7
    replace ca3 := (hfar (w.heap.size + 1) 3 (by omega)).trans ca3
    replace ca4 := (hfar (w.heap.size + 1) 4 (by omega)).trans ca4
    replace ra0 := (hfar (w.heap.size + 1 + 1) 0 (by omega)).trans ra0
    replace ra1 := (hfar (w.heap.size + 1 + 1) 1 (by omega)).trans ra1
    replace ra2 := (hfar (w.heap.size + 1 + 1) 2 (by omega)).trans ra2
    replace ra3 := (hfar (w.heap.size + 1 + 1) 3 (by omega)).trans ra3
    replace ra4 := (hfar (w.heap.size + 1 + 1) 4 (by omega)).trans ra4
    replace ra5 := (hfar (w.heap.size + 1 + 1) 5 (by omega)).trans ra5
    replace ra6 := (hfar (w.heap.size + 1 + 1) 6 (by omega)).trans ra6
    replace ra7 := (hfar (w.heap.size + 1 + 1) 7 (by omega)).trans ra7
    replace ra8 := (hfar (w.heap.size + 1 + 1) 8 (by omega)).trans ra8
    replace ea0 := (hfar W.heap.size 0 (by omega)).trans ea0
    replace ea1 := (hfar W.heap.size 1 (by omega)).trans ea1
    replace ea3 := (hfar W.heap.size 3 (by omega)).trans ea3
    replace ea4 := (hfar W.heap.size 4 (by omega)).trans ea4
    replace ea5 := (hfar W.heap.size 5 (by omega)).trans ea5
    replace ea6 := (hfar W.heap.size 6 (by omega)).trans ea6
    replace ea7 := (hfar W.heap.size 7 (by omega)).trans ea7
    replace ea8 := (hfar W.heap.size 8 (by omega)).trans ea8
    replace ea2 := hn
    replace efa : ∀ j, U2.frozen? ⟨W.heap.size, j, none⟩ = false := fun j => (hfr _ j).trans (efa j)
    replace hrf : ∀ j, U2.frozen? ⟨w.heap.size + 1 + 1, j, none⟩ = false := fun j => (hfr _ j).trans (hrf j)
    replace hres := ((hbl W.heap.size (Nat.le_refl _)).block (w.heap.size + 1 + 1) (by omega)).trans hres
    replace da0 := (hfar V.heap.size 0 (by omega)).trans da0
    replace da1 := (hfar V.heap.size 1 (by omega)).trans da1
    clear hn hfar hfr hbl
    replace hg0 : w.heap.size < U2.heap.size := by omega
    replace hg1 : w.heap.size + 1 < U2.heap.size := by omega
    replace hg2 : w.heap.size + 1 + 1 < U2.heap.size := by omega
    replace hgV : W.heap.size < U2.heap.size := by omega
    replace hgU : V.heap.size < U2.heap.size := by omega
    have hmod : 0 ≤ u.start % 86400 := by omega
    go_still_tail 9, (by kernel_rfl)
    change wpList _ _ _ _ _ U2.drew
    obtain ⟨U3, hU3⟩ : ∃ U3, U3 = U2.drew := ⟨_, rfl⟩
    have hbD : Below U2.heap.size U2 U3 := by rw [hU3]; exact (Below.refl _ _).drew
    rw [← hU3]
    clear hU3
    have hzD := hbD.size
    replace ea0 := (hbD.cell (p := ⟨_, _, none⟩) (by dsimp only; omega)).trans ea0
    replace ea1 := (hbD.cell (p := ⟨_, _, none⟩) (by dsimp only; omega)).trans ea1
    replace ea2 := (hbD.cell (p := ⟨_, _, none⟩) (by dsimp only; omega)).trans ea2
    replace ea3 := (hbD.cell (p := ⟨_, _, none⟩) (by dsimp only; omega)).trans ea3
    replace ea4 := (hbD.cell (p := ⟨_, _, none⟩) (by dsimp only; omega)).trans ea4
    replace ea5 := (hbD.cell (p := ⟨_, _, none⟩) (by dsimp only; omega)).trans ea5
    replace ea6 := (hbD.cell (p := ⟨_, _, none⟩) (by dsimp only; omega)).trans ea6
    replace ea7 := (hbD.cell (p := ⟨_, _, none⟩) (by dsimp only; omega)).trans ea7
    replace ea8 := (hbD.cell (p := ⟨_, _, none⟩) (by dsimp only; omega)).trans ea8
    replace efa := fun j => (hbD.frozen (p := ⟨_, j, none⟩) (by dsimp only; omega)).trans (efa j)
    (have hzhbD := hbD.size; replace ua1 := (hbD.cell (p := ⟨_, _, none⟩) (by (try dsimp only) <;> omega)).trans ua1; replace ua6 := (hbD.cell (p := ⟨_, _, none⟩) (by (try dsimp only) <;> omega)).trans ua6; replace ua7 := (hbD.cell (p := ⟨_, _, none⟩) (by (try dsimp only) <;> omega)).trans ua7; replace ca3 := (hbD.cell (p := ⟨_, _, none⟩) (by (try dsimp only) <;> omega)).trans ca3; replace ca4 := (hbD.cell (p := ⟨_, _, none⟩) (by (try dsimp only) <;> omega)).trans ca4; replace ra0 := (hbD.cell (p := ⟨_, _, none⟩) (by (try dsimp only) <;> omega)).trans ra0; replace ra1 := (hbD.cell (p := ⟨_, _, none⟩) (by (try dsimp only) <;> omega)).trans ra1; replace ra2 := (hbD.cell (p := ⟨_, _, none⟩) (by (try dsimp only) <;> omega)).trans ra2; replace ra3 := (hbD.cell (p := ⟨_, _, none⟩) (by (try dsimp only) <;> omega)).trans ra3; replace ra4 := (hbD.cell (p := ⟨_, _, none⟩) (by (try dsimp only) <;> omega)).trans ra4; replace ra5 := (hbD.cell (p := ⟨_, _, none⟩) (by (try dsimp only) <;> omega)).trans ra5; replace ra6 := (hbD.cell (p := ⟨_, _, none⟩) (by (try dsimp only) <;> omega)).trans ra6; replace ra7 := (hbD.cell (p := ⟨_, _, none⟩) (by (try dsimp only) <;> omega)).trans ra7; replace ra8 := (hbD.cell (p := ⟨_, _, none⟩) (by (try dsimp only) <;> omega)).trans ra8; replace hT := Below.trans hT (Below.mono hbD (by omega)))
    replace hres := (hbD.block _ (by omega)).trans hres
    replace hrf := fun j => (hbD.frozen (p := ⟨_, j, none⟩) (by dsimp only; omega)).trans (hrf j)
    replace hg0 : w.heap.size < U3.heap.size := by omega
    replace hg1 : w.heap.size + 1 < U3.heap.size := by omega
    replace hg2 : w.heap.size + 1 + 1 < U3.heap.size := by omega
    replace hgV : W.heap.size < U3.heap.size := by omega
    go_upto_region 7 with (fail)
    obtain ⟨U4, hS, hn, hfar, hfr, hbl, hsz⟩ := set1 W.heap.size 3 (u := .int .i64 (u.start % 86400 / 60)) ea3
    rw [← hS]
    clear hS
    replace hT := hT.trans (hbl _ (by omega))
    replace ua1 := (hfar w.heap.size 1 (by omega)).trans ua1
    replace ua6 := (hfar w.heap.size 6 (by omega)).trans ua6
    replace ua7 := (hfar w.heap.size 7 (by omega)).trans ua7
    replace ca3 := (hfar (w.heap.size + 1) 3 (by omega)).trans ca3
    replace ca4 := (hfar (w.heap.size + 1) 4 (by omega)).trans ca4
    replace ra0 := (hfar (w.heap.size + 1 + 1) 0 (by omega)).trans ra0
    replace ra1 := (hfar (w.heap.size + 1 + 1) 1 (by omega)).trans ra1
    replace ra2 := (hfar (w.heap.size + 1 + 1) 2 (by omega)).trans ra2
    replace ra3 := (hfar (w.heap.size + 1 + 1) 3 (by omega)).trans ra3
    replace ra4 := (hfar (w.heap.size + 1 + 1) 4 (by omega)).trans ra4
    replace ra5 := (hfar (w.heap.size + 1 + 1) 5 (by omega)).trans ra5
    replace ra6 := (hfar (w.heap.size + 1 + 1) 6 (by omega)).trans ra6
    replace ra7 := (hfar (w.heap.size + 1 + 1) 7 (by omega)).trans ra7
    replace ra8 := (hfar (w.heap.size + 1 + 1) 8 (by omega)).trans ra8
    replace ea0 := (hfar W.heap.size 0 (by omega)).trans ea0
    replace ea1 := (hfar W.heap.size 1 (by omega)).trans ea1
    replace ea2 := (hfar W.heap.size 2 (by omega)).trans ea2
    replace ea4 := (hfar W.heap.size 4 (by omega)).trans ea4
    replace ea5 := (hfar W.heap.size 5 (by omega)).trans ea5
    replace ea6 := (hfar W.heap.size 6 (by omega)).trans ea6
    replace ea7 := (hfar W.heap.size 7 (by omega)).trans ea7
    replace ea8 := (hfar W.heap.size 8 (by omega)).trans ea8
    replace ea3 := hn
    replace efa : ∀ j, U4.frozen? ⟨W.heap.size, j, none⟩ = false := fun j => (hfr _ j).trans (efa j)
    replace hrf : ∀ j, U4.frozen? ⟨w.heap.size + 1 + 1, j, none⟩ = false := fun j => (hfr _ j).trans (hrf j)
    replace hres := ((hbl W.heap.size (Nat.le_refl _)).block (w.heap.size + 1 + 1) (by omega)).trans hres
    clear hn hfar hfr hbl
    replace hg0 : w.heap.size < U4.heap.size := by omega
    replace hg1 : w.heap.size + 1 < U4.heap.size := by omega
    replace hg2 : w.heap.size + 1 + 1 < U4.heap.size := by omega
    replace hgV : W.heap.size < U4.heap.size := by omega
    go_wp2_with fail
    refine bodyPost_ret (results_cell_row rfl _ _ _ _ _ _ _ rfl (put9 hres) rfl rfl rfl) rfl ?_
    exact ⟨congrArg Ending.returned (by rw [HE.out]; rfl), hT.trans (put9_below (by omega))⟩
  · have HE := Lib.hid (show envE u z b c f = ⟨u.kind, u.units, -1, 0, c.units, c.spent, z, b, f⟩ by unfold envE; rw [if_neg h])
    rcases (show u.start < 0 ∨ (¬ u.start < 0 ∧ 12622780800 ≤ u.start) by omega) with h1 | ⟨h1, h2⟩
    all_goals
      have a3 : ¬ (0 ≤ u.start ∧ u.start < 12622780800) := h
      clear h
      go_enter Try.func9, Try.ntmps9
      go_upto_region 1 with (fail)
      obtain ⟨W, hW, hT, hzW, f1, f2, f3, hrf, hres⟩ := box3 w #[.int .i64 u.id, .int .i64 u.kind, .int .i64 u.account, .int .i64 u.sub, .string u.a, .string u.b, .int .i64 u.start, .int .i64 u.units, .int .i64 u.trunk, .bool u.inbound, .int .i64 u.source, .int .i64 u.serial] 23 #[.int .i64 c.sub, .int .i64 c.kind, .int .i64 c.frm, .int .i64 c.units, .int .i64 c.spent] 25 #[.int .i64 0, .int .i64 0, .int .i64 0, .int .i64 0, .int .i64 0, .int .i64 0, .string ⟨#[]⟩, .string ⟨#[]⟩, .bool false] 29
      rw [← hW]
      have ua1 : W.cell? ⟨w.heap.size, 1, none⟩ = some (.int .i64 u.kind) := f1 1 _ rfl
      have ua6 : W.cell? ⟨w.heap.size, 6, none⟩ = some (.int .i64 u.start) := f1 6 _ rfl
      have ua7 : W.cell? ⟨w.heap.size, 7, none⟩ = some (.int .i64 u.units) := f1 7 _ rfl
      have ca3 : W.cell? ⟨w.heap.size + 1, 3, none⟩ = some (.int .i64 c.units) := f2 3 _ rfl
      have ca4 : W.cell? ⟨w.heap.size + 1, 4, none⟩ = some (.int .i64 c.spent) := f2 4 _ rfl
      have ra0 : W.cell? ⟨w.heap.size + 1 + 1, 0, none⟩ = some (.int .i64 0) := f3 0 _ rfl
      have ra1 : W.cell? ⟨w.heap.size + 1 + 1, 1, none⟩ = some (.int .i64 0) := f3 1 _ rfl
      have ra2 : W.cell? ⟨w.heap.size + 1 + 1, 2, none⟩ = some (.int .i64 0) := f3 2 _ rfl
      have ra3 : W.cell? ⟨w.heap.size + 1 + 1, 3, none⟩ = some (.int .i64 0) := f3 3 _ rfl
      have ra4 : W.cell? ⟨w.heap.size + 1 + 1, 4, none⟩ = some (.int .i64 0) := f3 4 _ rfl
      have ra5 : W.cell? ⟨w.heap.size + 1 + 1, 5, none⟩ = some (.int .i64 0) := f3 5 _ rfl
      have ra6 : W.cell? ⟨w.heap.size + 1 + 1, 6, none⟩ = some (.string ⟨#[]⟩) := f3 6 _ rfl
      have ra7 : W.cell? ⟨w.heap.size + 1 + 1, 7, none⟩ = some (.string ⟨#[]⟩) := f3 7 _ rfl
      have ra8 : W.cell? ⟨w.heap.size + 1 + 1, 8, none⟩ = some (.bool false) := f3 8 _ rfl
      clear hW f1 f2 f3
      have hg0 : w.heap.size < W.heap.size := by omega
      have hg1 : w.heap.size + 1 < W.heap.size := by omega
      have hg2 : w.heap.size + 1 + 1 < W.heap.size := hzW
      go_upto_region 2 with (fail)
      (obtain ⟨V, hWV, hbV, hzV, f1V, efa⟩ := box1 W #[.int .i64 u.kind, .int .i64 u.units, .int .i64 (-1), .int .i64 0, .int .i64 c.units, .int .i64 c.spent, .string z, .string b, .bool f] 29; rw [← hWV]; have ea0 : V.cell? ⟨W.heap.size, 0, none⟩ = some (.int .i64 u.kind) := f1V 0 _ rfl; have ea1 : V.cell? ⟨W.heap.size, 1, none⟩ = some (.int .i64 u.units) := f1V 1 _ rfl; have ea2 : V.cell? ⟨W.heap.size, 2, none⟩ = some (.int .i64 (-1)) := f1V 2 _ rfl; have ea3 : V.cell? ⟨W.heap.size, 3, none⟩ = some (.int .i64 0) := f1V 3 _ rfl; have ea4 : V.cell? ⟨W.heap.size, 4, none⟩ = some (.int .i64 c.units) := f1V 4 _ rfl; have ea5 : V.cell? ⟨W.heap.size, 5, none⟩ = some (.int .i64 c.spent) := f1V 5 _ rfl; have ea6 : V.cell? ⟨W.heap.size, 6, none⟩ = some (.string z) := f1V 6 _ rfl; have ea7 : V.cell? ⟨W.heap.size, 7, none⟩ = some (.string b) := f1V 7 _ rfl; have ea8 : V.cell? ⟨W.heap.size, 8, none⟩ = some (.bool f) := f1V 8 _ rfl; clear hWV f1V)
      (have hzhbV := hbV.size; replace ua1 := (hbV.cell (p := ⟨_, _, none⟩) (by (try dsimp only) <;> omega)).trans ua1; replace ua6 := (hbV.cell (p := ⟨_, _, none⟩) (by (try dsimp only) <;> omega)).trans ua6; replace ua7 := (hbV.cell (p := ⟨_, _, none⟩) (by (try dsimp only) <;> omega)).trans ua7; replace ca3 := (hbV.cell (p := ⟨_, _, none⟩) (by (try dsimp only) <;> omega)).trans ca3; replace ca4 := (hbV.cell (p := ⟨_, _, none⟩) (by (try dsimp only) <;> omega)).trans ca4; replace ra0 := (hbV.cell (p := ⟨_, _, none⟩) (by (try dsimp only) <;> omega)).trans ra0; replace ra1 := (hbV.cell (p := ⟨_, _, none⟩) (by (try dsimp only) <;> omega)).trans ra1; replace ra2 := (hbV.cell (p := ⟨_, _, none⟩) (by (try dsimp only) <;> omega)).trans ra2; replace ra3 := (hbV.cell (p := ⟨_, _, none⟩) (by (try dsimp only) <;> omega)).trans ra3; replace ra4 := (hbV.cell (p := ⟨_, _, none⟩) (by (try dsimp only) <;> omega)).trans ra4; replace ra5 := (hbV.cell (p := ⟨_, _, none⟩) (by (try dsimp only) <;> omega)).trans ra5; replace ra6 := (hbV.cell (p := ⟨_, _, none⟩) (by (try dsimp only) <;> omega)).trans ra6; replace ra7 := (hbV.cell (p := ⟨_, _, none⟩) (by (try dsimp only) <;> omega)).trans ra7; replace ra8 := (hbV.cell (p := ⟨_, _, none⟩) (by (try dsimp only) <;> omega)).trans ra8; replace hT := Below.trans hT (Below.mono hbV (by omega)))
      replace hres := (hbV.block _ (by omega)).trans hres
      replace hrf := fun j => (hbV.frozen (p := ⟨_, j, none⟩) (by dsimp only; omega)).trans (hrf j)
      replace hg0 : w.heap.size < V.heap.size := by omega
      replace hg1 : w.heap.size + 1 < V.heap.size := by omega
      replace hg2 : w.heap.size + 1 + 1 < V.heap.size := by omega
      have hgV : W.heap.size < V.heap.size := hzV
      go_wp2_with fail
      refine bodyPost_ret (results_cell_row rfl _ _ _ _ _ _ _ rfl (put9 hres) rfl rfl rfl) rfl ?_
      exact ⟨congrArg Ending.returned (by rw [HE.out]; rfl), hT.trans (put9_below (by omega))⟩
set_option maxHeartbeats 8000000 in
theorem refenv_any (u : Us) (z b : ByteArray) (c : Ct) (f : Bool) (w : World) : Calls Try.prog 10 #[u.val, .string z, .string b, c.val, .bool f] w fun r w' => r = .returned (envE u z b c f).val ∧ Below w.heap.size w w' := by
  unfold Us.val Ct.val
  by_cases h : 0 ≤ u.start ∧ u.start < 12622780800
  · have HE := Lib.hid (show envE u z b c f = ⟨u.kind, u.units, (u.start / 86400 + 5) % 7, u.start % 86400 / 60, c.units, c.spent, z, b, f⟩ by unfold envE; rw [if_pos h])
    obtain ⟨h1, h2⟩ := h
    have a1 : ¬ u.start < 0 := by omega
    have a2 : ¬ 12622780800 ≤ u.start := by omega
    go_enter Try.func10, Try.ntmps10
    go_upto_region 1 with (fail)
    obtain ⟨W, hW, hT, hzW, f1, f2, f3, hrf, hres⟩ := box3 w #[.int .i64 u.id, .int .i64 u.kind, .int .i64 u.account, .int .i64 u.sub, .string u.a, .string u.b, .int .i64 u.start, .int .i64 u.units, .int .i64 u.trunk, .bool u.inbound, .int .i64 u.source, .int .i64 u.serial] 23 #[.int .i64 c.sub, .int .i64 c.kind, .int .i64 c.frm, .int .i64 c.units, .int .i64 c.spent] 25 #[.int .i64 0, .int .i64 0, .int .i64 0, .int .i64 0, .int .i64 0, .int .i64 0, .string ⟨#[]⟩, .string ⟨#[]⟩, .bool false] 29
    rw [← hW]
    have ua1 : W.cell? ⟨w.heap.size, 1, none⟩ = some (.int .i64 u.kind) := f1 1 _ rfl
    have ua6 : W.cell? ⟨w.heap.size, 6, none⟩ = some (.int .i64 u.start) := f1 6 _ rfl
    have ua7 : W.cell? ⟨w.heap.size, 7, none⟩ = some (.int .i64 u.units) := f1 7 _ rfl
    have ca3 : W.cell? ⟨w.heap.size + 1, 3, none⟩ = some (.int .i64 c.units) := f2 3 _ rfl
    have ca4 : W.cell? ⟨w.heap.size + 1, 4, none⟩ = some (.int .i64 c.spent) := f2 4 _ rfl
    have ra0 : W.cell? ⟨w.heap.size + 1 + 1, 0, none⟩ = some (.int .i64 0) := f3 0 _ rfl
    have ra1 : W.cell? ⟨w.heap.size + 1 + 1, 1, none⟩ = some (.int .i64 0) := f3 1 _ rfl
    have ra2 : W.cell? ⟨w.heap.size + 1 + 1, 2, none⟩ = some (.int .i64 0) := f3 2 _ rfl
    have ra3 : W.cell? ⟨w.heap.size + 1 + 1, 3, none⟩ = some (.int .i64 0) := f3 3 _ rfl
    have ra4 : W.cell? ⟨w.heap.size + 1 + 1, 4, none⟩ = some (.int .i64 0) := f3 4 _ rfl
    have ra5 : W.cell? ⟨w.heap.size + 1 + 1, 5, none⟩ = some (.int .i64 0) := f3 5 _ rfl
    have ra6 : W.cell? ⟨w.heap.size + 1 + 1, 6, none⟩ = some (.string ⟨#[]⟩) := f3 6 _ rfl
    have ra7 : W.cell? ⟨w.heap.size + 1 + 1, 7, none⟩ = some (.string ⟨#[]⟩) := f3 7 _ rfl
    have ra8 : W.cell? ⟨w.heap.size + 1 + 1, 8, none⟩ = some (.bool false) := f3 8 _ rfl
    clear hW f1 f2 f3
    have hg0 : w.heap.size < W.heap.size := by omega
    have hg1 : w.heap.size + 1 < W.heap.size := by omega
    have hg2 : w.heap.size + 1 + 1 < W.heap.size := hzW
    go_upto_region 2 with (fail)
    (obtain ⟨V, hWV, hbV, hzV, f1V, efa⟩ := box1 W #[.int .i64 u.kind, .int .i64 u.units, .int .i64 (-1), .int .i64 0, .int .i64 c.units, .int .i64 c.spent, .string z, .string b, .bool f] 29; rw [← hWV]; have ea0 : V.cell? ⟨W.heap.size, 0, none⟩ = some (.int .i64 u.kind) := f1V 0 _ rfl; have ea1 : V.cell? ⟨W.heap.size, 1, none⟩ = some (.int .i64 u.units) := f1V 1 _ rfl; have ea2 : V.cell? ⟨W.heap.size, 2, none⟩ = some (.int .i64 (-1)) := f1V 2 _ rfl; have ea3 : V.cell? ⟨W.heap.size, 3, none⟩ = some (.int .i64 0) := f1V 3 _ rfl; have ea4 : V.cell? ⟨W.heap.size, 4, none⟩ = some (.int .i64 c.units) := f1V 4 _ rfl; have ea5 : V.cell? ⟨W.heap.size, 5, none⟩ = some (.int .i64 c.spent) := f1V 5 _ rfl; have ea6 : V.cell? ⟨W.heap.size, 6, none⟩ = some (.string z) := f1V 6 _ rfl; have ea7 : V.cell? ⟨W.heap.size, 7, none⟩ = some (.string b) := f1V 7 _ rfl; have ea8 : V.cell? ⟨W.heap.size, 8, none⟩ = some (.bool f) := f1V 8 _ rfl; clear hWV f1V)
    (have hzhbV := hbV.size; replace ua1 := (hbV.cell (p := ⟨_, _, none⟩) (by (try dsimp only) <;> omega)).trans ua1; replace ua6 := (hbV.cell (p := ⟨_, _, none⟩) (by (try dsimp only) <;> omega)).trans ua6; replace ua7 := (hbV.cell (p := ⟨_, _, none⟩) (by (try dsimp only) <;> omega)).trans ua7; replace ca3 := (hbV.cell (p := ⟨_, _, none⟩) (by (try dsimp only) <;> omega)).trans ca3; replace ca4 := (hbV.cell (p := ⟨_, _, none⟩) (by (try dsimp only) <;> omega)).trans ca4; replace ra0 := (hbV.cell (p := ⟨_, _, none⟩) (by (try dsimp only) <;> omega)).trans ra0; replace ra1 := (hbV.cell (p := ⟨_, _, none⟩) (by (try dsimp only) <;> omega)).trans ra1; replace ra2 := (hbV.cell (p := ⟨_, _, none⟩) (by (try dsimp only) <;> omega)).trans ra2; replace ra3 := (hbV.cell (p := ⟨_, _, none⟩) (by (try dsimp only) <;> omega)).trans ra3; replace ra4 := (hbV.cell (p := ⟨_, _, none⟩) (by (try dsimp only) <;> omega)).trans ra4; replace ra5 := (hbV.cell (p := ⟨_, _, none⟩) (by (try dsimp only) <;> omega)).trans ra5; replace ra6 := (hbV.cell (p := ⟨_, _, none⟩) (by (try dsimp only) <;> omega)).trans ra6; replace ra7 := (hbV.cell (p := ⟨_, _, none⟩) (by (try dsimp only) <;> omega)).trans ra7; replace ra8 := (hbV.cell (p := ⟨_, _, none⟩) (by (try dsimp only) <;> omega)).trans ra8; replace hT := Below.trans hT (Below.mono hbV (by omega)))
    replace hres := (hbV.block _ (by omega)).trans hres
    replace hrf := fun j => (hbV.frozen (p := ⟨_, j, none⟩) (by dsimp only; omega)).trans (hrf j)
    replace hg0 : w.heap.size < V.heap.size := by omega
    replace hg1 : w.heap.size + 1 < V.heap.size := by omega
    replace hg2 : w.heap.size + 1 + 1 < V.heap.size := by omega
    have hgV : W.heap.size < V.heap.size := hzV
    have hdiv : 0 ≤ u.start / 86400 := by omega
    have hsum : IntKind.i64.wrap (u.start / 86400 + 5) = u.start / 86400 + 5 := IntWalk.i64_in _ (by omega)
    have hsp : 0 ≤ u.start / 86400 + 5 := by omega
    have hmod : 0 ≤ u.start % 86400 := by omega
    have hb1 : 0 ≤ u.start := h1
    go_upto_region 4 with (fail)
    obtain ⟨U2, hS, hn, hfar, hfr, hbl, hsz⟩ := set1 W.heap.size 2 (u := .int .i64 ((u.start / 86400 + 5) % 7)) ea2
    rw [← hS]
    clear hS
    replace hT := hT.trans (hbl _ (by omega))
    replace ua1 := (hfar w.heap.size 1 (by omega)).trans ua1
    replace ua6 := (hfar w.heap.size 6 (by omega)).trans ua6
    replace ua7 := (hfar w.heap.size 7 (by omega)).trans ua7
    replace ca3 := (hfar (w.heap.size + 1) 3 (by omega)).trans ca3
    replace ca4 := (hfar (w.heap.size + 1) 4 (by omega)).trans ca4
    replace ra0 := (hfar (w.heap.size + 1 + 1) 0 (by omega)).trans ra0
    replace ra1 := (hfar (w.heap.size + 1 + 1) 1 (by omega)).trans ra1
    replace ra2 := (hfar (w.heap.size + 1 + 1) 2 (by omega)).trans ra2
    replace ra3 := (hfar (w.heap.size + 1 + 1) 3 (by omega)).trans ra3
    replace ra4 := (hfar (w.heap.size + 1 + 1) 4 (by omega)).trans ra4
    replace ra5 := (hfar (w.heap.size + 1 + 1) 5 (by omega)).trans ra5
    replace ra6 := (hfar (w.heap.size + 1 + 1) 6 (by omega)).trans ra6
    replace ra7 := (hfar (w.heap.size + 1 + 1) 7 (by omega)).trans ra7
    replace ra8 := (hfar (w.heap.size + 1 + 1) 8 (by omega)).trans ra8
    replace ea0 := (hfar W.heap.size 0 (by omega)).trans ea0
    replace ea1 := (hfar W.heap.size 1 (by omega)).trans ea1
    replace ea3 := (hfar W.heap.size 3 (by omega)).trans ea3
    replace ea4 := (hfar W.heap.size 4 (by omega)).trans ea4
    replace ea5 := (hfar W.heap.size 5 (by omega)).trans ea5
    replace ea6 := (hfar W.heap.size 6 (by omega)).trans ea6
    replace ea7 := (hfar W.heap.size 7 (by omega)).trans ea7
    replace ea8 := (hfar W.heap.size 8 (by omega)).trans ea8
    replace ea2 := hn
    replace efa : ∀ j, U2.frozen? ⟨W.heap.size, j, none⟩ = false := fun j => (hfr _ j).trans (efa j)
    replace hrf : ∀ j, U2.frozen? ⟨w.heap.size + 1 + 1, j, none⟩ = false := fun j => (hfr _ j).trans (hrf j)
    replace hres := ((hbl W.heap.size (Nat.le_refl _)).block (w.heap.size + 1 + 1) (by omega)).trans hres
    clear hn hfar hfr hbl
    replace hg0 : w.heap.size < U2.heap.size := by omega
    replace hg1 : w.heap.size + 1 < U2.heap.size := by omega
    replace hg2 : w.heap.size + 1 + 1 < U2.heap.size := by omega
    replace hgV : W.heap.size < U2.heap.size := by omega
    go_upto_region 5 with (fail)
    obtain ⟨U4, hS, hn, hfar, hfr, hbl, hsz⟩ := set1 W.heap.size 3 (u := .int .i64 (u.start % 86400 / 60)) ea3
    rw [← hS]
    clear hS
    replace hT := hT.trans (hbl _ (by omega))
    replace ua1 := (hfar w.heap.size 1 (by omega)).trans ua1
    replace ua6 := (hfar w.heap.size 6 (by omega)).trans ua6
    replace ua7 := (hfar w.heap.size 7 (by omega)).trans ua7
    replace ca3 := (hfar (w.heap.size + 1) 3 (by omega)).trans ca3
    replace ca4 := (hfar (w.heap.size + 1) 4 (by omega)).trans ca4
    replace ra0 := (hfar (w.heap.size + 1 + 1) 0 (by omega)).trans ra0
    replace ra1 := (hfar (w.heap.size + 1 + 1) 1 (by omega)).trans ra1
    replace ra2 := (hfar (w.heap.size + 1 + 1) 2 (by omega)).trans ra2
    replace ra3 := (hfar (w.heap.size + 1 + 1) 3 (by omega)).trans ra3
    replace ra4 := (hfar (w.heap.size + 1 + 1) 4 (by omega)).trans ra4
    replace ra5 := (hfar (w.heap.size + 1 + 1) 5 (by omega)).trans ra5
    replace ra6 := (hfar (w.heap.size + 1 + 1) 6 (by omega)).trans ra6
    replace ra7 := (hfar (w.heap.size + 1 + 1) 7 (by omega)).trans ra7
    replace ra8 := (hfar (w.heap.size + 1 + 1) 8 (by omega)).trans ra8
    replace ea0 := (hfar W.heap.size 0 (by omega)).trans ea0
    replace ea1 := (hfar W.heap.size 1 (by omega)).trans ea1
    replace ea2 := (hfar W.heap.size 2 (by omega)).trans ea2
    replace ea4 := (hfar W.heap.size 4 (by omega)).trans ea4
    replace ea5 := (hfar W.heap.size 5 (by omega)).trans ea5
    replace ea6 := (hfar W.heap.size 6 (by omega)).trans ea6
    replace ea7 := (hfar W.heap.size 7 (by omega)).trans ea7
    replace ea8 := (hfar W.heap.size 8 (by omega)).trans ea8
    replace ea3 := hn
    replace efa : ∀ j, U4.frozen? ⟨W.heap.size, j, none⟩ = false := fun j => (hfr _ j).trans (efa j)
    replace hrf : ∀ j, U4.frozen? ⟨w.heap.size + 1 + 1, j, none⟩ = false := fun j => (hfr _ j).trans (hrf j)
    replace hres := ((hbl W.heap.size (Nat.le_refl _)).block (w.heap.size + 1 + 1) (by omega)).trans hres
    clear hn hfar hfr hbl
    replace hg0 : w.heap.size < U4.heap.size := by omega
    replace hg1 : w.heap.size + 1 < U4.heap.size := by omega
    replace hg2 : w.heap.size + 1 + 1 < U4.heap.size := by omega
    replace hgV : W.heap.size < U4.heap.size := by omega
    go_wp2_with fail
    refine bodyPost_ret (results_cell_row rfl _ _ _ _ _ _ _ rfl (put9 hres) rfl rfl rfl) rfl ?_
    exact ⟨congrArg Ending.returned (by rw [HE.out]; rfl), hT.trans (put9_below (by omega))⟩
  · have HE := Lib.hid (show envE u z b c f = ⟨u.kind, u.units, -1, 0, c.units, c.spent, z, b, f⟩ by unfold envE; rw [if_neg h])
    rcases (show u.start < 0 ∨ (¬ u.start < 0 ∧ 12622780800 ≤ u.start) by omega) with h1 | ⟨h1, h2⟩
    all_goals
      have a3 : ¬ (0 ≤ u.start ∧ u.start < 12622780800) := h
      clear h
      go_enter Try.func10, Try.ntmps10
      go_upto_region 1 with (fail)
      obtain ⟨W, hW, hT, hzW, f1, f2, f3, hrf, hres⟩ := box3 w #[.int .i64 u.id, .int .i64 u.kind, .int .i64 u.account, .int .i64 u.sub, .string u.a, .string u.b, .int .i64 u.start, .int .i64 u.units, .int .i64 u.trunk, .bool u.inbound, .int .i64 u.source, .int .i64 u.serial] 23 #[.int .i64 c.sub, .int .i64 c.kind, .int .i64 c.frm, .int .i64 c.units, .int .i64 c.spent] 25 #[.int .i64 0, .int .i64 0, .int .i64 0, .int .i64 0, .int .i64 0, .int .i64 0, .string ⟨#[]⟩, .string ⟨#[]⟩, .bool false] 29
      rw [← hW]
      have ua1 : W.cell? ⟨w.heap.size, 1, none⟩ = some (.int .i64 u.kind) := f1 1 _ rfl
      have ua6 : W.cell? ⟨w.heap.size, 6, none⟩ = some (.int .i64 u.start) := f1 6 _ rfl
      have ua7 : W.cell? ⟨w.heap.size, 7, none⟩ = some (.int .i64 u.units) := f1 7 _ rfl
      have ca3 : W.cell? ⟨w.heap.size + 1, 3, none⟩ = some (.int .i64 c.units) := f2 3 _ rfl
      have ca4 : W.cell? ⟨w.heap.size + 1, 4, none⟩ = some (.int .i64 c.spent) := f2 4 _ rfl
      have ra0 : W.cell? ⟨w.heap.size + 1 + 1, 0, none⟩ = some (.int .i64 0) := f3 0 _ rfl
      have ra1 : W.cell? ⟨w.heap.size + 1 + 1, 1, none⟩ = some (.int .i64 0) := f3 1 _ rfl
      have ra2 : W.cell? ⟨w.heap.size + 1 + 1, 2, none⟩ = some (.int .i64 0) := f3 2 _ rfl
      have ra3 : W.cell? ⟨w.heap.size + 1 + 1, 3, none⟩ = some (.int .i64 0) := f3 3 _ rfl
      have ra4 : W.cell? ⟨w.heap.size + 1 + 1, 4, none⟩ = some (.int .i64 0) := f3 4 _ rfl
      have ra5 : W.cell? ⟨w.heap.size + 1 + 1, 5, none⟩ = some (.int .i64 0) := f3 5 _ rfl
      have ra6 : W.cell? ⟨w.heap.size + 1 + 1, 6, none⟩ = some (.string ⟨#[]⟩) := f3 6 _ rfl
      have ra7 : W.cell? ⟨w.heap.size + 1 + 1, 7, none⟩ = some (.string ⟨#[]⟩) := f3 7 _ rfl
      have ra8 : W.cell? ⟨w.heap.size + 1 + 1, 8, none⟩ = some (.bool false) := f3 8 _ rfl
      clear hW f1 f2 f3
      have hg0 : w.heap.size < W.heap.size := by omega
      have hg1 : w.heap.size + 1 < W.heap.size := by omega
      have hg2 : w.heap.size + 1 + 1 < W.heap.size := hzW
      go_upto_region 2 with (fail)
      (obtain ⟨V, hWV, hbV, hzV, f1V, efa⟩ := box1 W #[.int .i64 u.kind, .int .i64 u.units, .int .i64 (-1), .int .i64 0, .int .i64 c.units, .int .i64 c.spent, .string z, .string b, .bool f] 29; rw [← hWV]; have ea0 : V.cell? ⟨W.heap.size, 0, none⟩ = some (.int .i64 u.kind) := f1V 0 _ rfl; have ea1 : V.cell? ⟨W.heap.size, 1, none⟩ = some (.int .i64 u.units) := f1V 1 _ rfl; have ea2 : V.cell? ⟨W.heap.size, 2, none⟩ = some (.int .i64 (-1)) := f1V 2 _ rfl; have ea3 : V.cell? ⟨W.heap.size, 3, none⟩ = some (.int .i64 0) := f1V 3 _ rfl; have ea4 : V.cell? ⟨W.heap.size, 4, none⟩ = some (.int .i64 c.units) := f1V 4 _ rfl; have ea5 : V.cell? ⟨W.heap.size, 5, none⟩ = some (.int .i64 c.spent) := f1V 5 _ rfl; have ea6 : V.cell? ⟨W.heap.size, 6, none⟩ = some (.string z) := f1V 6 _ rfl; have ea7 : V.cell? ⟨W.heap.size, 7, none⟩ = some (.string b) := f1V 7 _ rfl; have ea8 : V.cell? ⟨W.heap.size, 8, none⟩ = some (.bool f) := f1V 8 _ rfl; clear hWV f1V)
      (have hzhbV := hbV.size; replace ua1 := (hbV.cell (p := ⟨_, _, none⟩) (by (try dsimp only) <;> omega)).trans ua1; replace ua6 := (hbV.cell (p := ⟨_, _, none⟩) (by (try dsimp only) <;> omega)).trans ua6; replace ua7 := (hbV.cell (p := ⟨_, _, none⟩) (by (try dsimp only) <;> omega)).trans ua7; replace ca3 := (hbV.cell (p := ⟨_, _, none⟩) (by (try dsimp only) <;> omega)).trans ca3; replace ca4 := (hbV.cell (p := ⟨_, _, none⟩) (by (try dsimp only) <;> omega)).trans ca4; replace ra0 := (hbV.cell (p := ⟨_, _, none⟩) (by (try dsimp only) <;> omega)).trans ra0; replace ra1 := (hbV.cell (p := ⟨_, _, none⟩) (by (try dsimp only) <;> omega)).trans ra1; replace ra2 := (hbV.cell (p := ⟨_, _, none⟩) (by (try dsimp only) <;> omega)).trans ra2; replace ra3 := (hbV.cell (p := ⟨_, _, none⟩) (by (try dsimp only) <;> omega)).trans ra3; replace ra4 := (hbV.cell (p := ⟨_, _, none⟩) (by (try dsimp only) <;> omega)).trans ra4; replace ra5 := (hbV.cell (p := ⟨_, _, none⟩) (by (try dsimp only) <;> omega)).trans ra5; replace ra6 := (hbV.cell (p := ⟨_, _, none⟩) (by (try dsimp only) <;> omega)).trans ra6; replace ra7 := (hbV.cell (p := ⟨_, _, none⟩) (by (try dsimp only) <;> omega)).trans ra7; replace ra8 := (hbV.cell (p := ⟨_, _, none⟩) (by (try dsimp only) <;> omega)).trans ra8; replace hT := Below.trans hT (Below.mono hbV (by omega)))
      replace hres := (hbV.block _ (by omega)).trans hres
      replace hrf := fun j => (hbV.frozen (p := ⟨_, j, none⟩) (by dsimp only; omega)).trans (hrf j)
      replace hg0 : w.heap.size < V.heap.size := by omega
      replace hg1 : w.heap.size + 1 < V.heap.size := by omega
      replace hg2 : w.heap.size + 1 + 1 < V.heap.size := by omega
      have hgV : W.heap.size < V.heap.size := hzV
      go_wp2_with fail
      refine bodyPost_ret (results_cell_row rfl _ _ _ _ _ _ _ rfl (put9 hres) rfl rfl rfl) rfl ?_
      exact ⟨congrArg Ending.returned (by rw [HE.out]; rfl), hT.trans (put9_below (by omega))⟩
end Dc
end Go.Proofs.Ytdjlfdbdhacmjaa
