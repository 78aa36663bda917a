/-
  Expressions: negations, conjunctions, disjunctions. No condition.
-/
import Derived.Test.YtigfkbomeimobaaExLp
import Derived.BigQuiet
import Derived.StillTailTactics
import Derived.Lib.Overlaps
import Derived.Deep.DeepCutAuto
import Derived.Deep.RegionWith
set_option maxRecDepth 100000
set_option linter.unusedVariables false
set_option linter.unusedSimpArgs false
namespace Go.Proofs.Ytigfkbomeimobaa
open Go.RowKit

namespace Xp
set_option maxHeartbeats 8000000 in
theorem EvalLogic_run (v : Env) (e f : Ex) (x y : It) (w : World) (hx : Rp w e x) (hy : Rp w f y) : Calls Try.prog 8 #[x.val, y.val, v.val] w fun r w' => r = .returned (.bool true) ∧ Below w.heap.size w w' := by
  obtain ⟨⟨ps, py⟩, hps⟩ : ∃ p, srt 16 (Nn (Nn (Nn e))) = p := ⟨_, rfl⟩
  obtain ⟨⟨qs, qy⟩, hqs⟩ : ∃ p, srt 16 (Nn (Nn (Nn f))) = p := ⟨_, rfl⟩
  have Hps := Lib.hid hps
  have Hqs := Lib.hid hqs
  clear hps hqs
  unfold It.val Env.val
  go_enter Try.func8, Try.ntmps8
  go_upto_region 1 with (fail)
  obtain ⟨W, hW, hT, hzW, f1, f2, f3⟩ := box3 w #[.int .i64 x.op, .int .i64 x.num, .string x.text, .slice x.A x.n x.c] 24 #[.int .i64 y.op, .int .i64 y.num, .string y.text, .slice y.A y.n y.c] 24 #[.int .i64 v.kind, .int .i64 v.units, .int .i64 v.weekday, .int .i64 v.minute, .int .i64 v.total, .int .i64 v.spent, .string v.zone, .string v.band, .bool v.family] 26
  rw [← hW]
  have xa0 : W.cell? ⟨w.heap.size, 0, none⟩ = some (.int .i64 x.op) := f1 0 _ rfl
  have xa1 : W.cell? ⟨w.heap.size, 1, none⟩ = some (.int .i64 x.num) := f1 1 _ rfl
  have xa2 : W.cell? ⟨w.heap.size, 2, none⟩ = some (.string x.text) := f1 2 _ rfl
  have xa3 : W.cell? ⟨w.heap.size, 3, none⟩ = some (.slice x.A x.n x.c) := f1 3 _ rfl
  have ya0 : W.cell? ⟨w.heap.size + 1, 0, none⟩ = some (.int .i64 y.op) := f2 0 _ rfl
  have ya1 : W.cell? ⟨w.heap.size + 1, 1, none⟩ = some (.int .i64 y.num) := f2 1 _ rfl
  have ya2 : W.cell? ⟨w.heap.size + 1, 2, none⟩ = some (.string y.text) := f2 2 _ rfl
  have ya3 : W.cell? ⟨w.heap.size + 1, 3, none⟩ = some (.slice y.A y.n y.c) := f2 3 _ rfl
  have ea0 : W.cell? ⟨w.heap.size + 1 + 1, 0, none⟩ = some (.int .i64 v.kind) := f3 0 _ rfl
  have ea1 : W.cell? ⟨w.heap.size + 1 + 1, 1, none⟩ = some (.int .i64 v.units) := f3 1 _ rfl
  have ea2 : W.cell? ⟨w.heap.size + 1 + 1, 2, none⟩ = some (.int .i64 v.weekday) := f3 2 _ rfl
  have ea3 : W.cell? ⟨w.heap.size + 1 + 1, 3, none⟩ = some (.int .i64 v.minute) := f3 3 _ rfl
  have ea4 : W.cell? ⟨w.heap.size + 1 + 1, 4, none⟩ = some (.int .i64 v.total) := f3 4 _ rfl
  have ea5 : W.cell? ⟨w.heap.size + 1 + 1, 5, none⟩ = some (.int .i64 v.spent) := f3 5 _ rfl
  have ea6 : W.cell? ⟨w.heap.size + 1 + 1, 6, none⟩ = some (.string v.zone) := f3 6 _ rfl
  have ea7 : W.cell? ⟨w.heap.size + 1 + 1, 7, none⟩ = some (.string v.band) := f3 7 _ rfl
  have ea8 : W.cell? ⟨w.heap.size + 1 + 1, 8, none⟩ = some (.bool v.family) := f3 8 _ rfl
  clear hW f1 f2 f3
  have HX := Lib.hid (hx.on hT)
  have HY := Lib.hid (hy.on hT)
  clear hx hy
  go_wp2_with fail
  refine (small_any HX.out).mono ?_
  rintro r c1 ⟨⟨m, rfl⟩, h1⟩
  replace HX := Lib.hid (HX.out.on h1)
  replace HY := Lib.hid (HY.out.on h1)
  replace xa0 := (h1.cell (p := ⟨_, _, none⟩) (by (try dsimp only) <;> omega)).trans xa0
  replace xa1 := (h1.cell (p := ⟨_, _, none⟩) (by (try dsimp only) <;> omega)).trans xa1
  replace xa2 := (h1.cell (p := ⟨_, _, none⟩) (by (try dsimp only) <;> omega)).trans xa2
  replace xa3 := (h1.cell (p := ⟨_, _, none⟩) (by (try dsimp only) <;> omega)).trans xa3
  replace ya0 := (h1.cell (p := ⟨_, _, none⟩) (by (try dsimp only) <;> omega)).trans ya0
  replace ya1 := (h1.cell (p := ⟨_, _, none⟩) (by (try dsimp only) <;> omega)).trans ya1
  replace ya2 := (h1.cell (p := ⟨_, _, none⟩) (by (try dsimp only) <;> omega)).trans ya2
  replace ya3 := (h1.cell (p := ⟨_, _, none⟩) (by (try dsimp only) <;> omega)).trans ya3
  replace ea0 := (h1.cell (p := ⟨_, _, none⟩) (by (try dsimp only) <;> omega)).trans ea0
  replace ea1 := (h1.cell (p := ⟨_, _, none⟩) (by (try dsimp only) <;> omega)).trans ea1
  replace ea2 := (h1.cell (p := ⟨_, _, none⟩) (by (try dsimp only) <;> omega)).trans ea2
  replace ea3 := (h1.cell (p := ⟨_, _, none⟩) (by (try dsimp only) <;> omega)).trans ea3
  replace ea4 := (h1.cell (p := ⟨_, _, none⟩) (by (try dsimp only) <;> omega)).trans ea4
  replace ea5 := (h1.cell (p := ⟨_, _, none⟩) (by (try dsimp only) <;> omega)).trans ea5
  replace ea6 := (h1.cell (p := ⟨_, _, none⟩) (by (try dsimp only) <;> omega)).trans ea6
  replace ea7 := (h1.cell (p := ⟨_, _, none⟩) (by (try dsimp only) <;> omega)).trans ea7
  replace ea8 := (h1.cell (p := ⟨_, _, none⟩) (by (try dsimp only) <;> omega)).trans ea8
  have z1 := h1.size
  replace hT := hT.trans (h1.mono (by omega))
  clear h1
  cases m
  · go_wp2_with fail
    refine (awake_any _).mono ?_
    rintro r w9 ⟨rfl, hb9⟩
    have hbE := hT.trans (hb9.mono (by omega))
    go_wp2_with fail
    go_ret
    exact ⟨rfl, hbE⟩
  go_wp2_with fail
  refine (small_any HY.out).mono ?_
  rintro r c2 ⟨⟨m, rfl⟩, h2⟩
  replace HX := Lib.hid (HX.out.on h2)
  replace HY := Lib.hid (HY.out.on h2)
  replace xa0 := (h2.cell (p := ⟨_, _, none⟩) (by (try dsimp only) <;> omega)).trans xa0
  replace xa1 := (h2.cell (p := ⟨_, _, none⟩) (by (try dsimp only) <;> omega)).trans xa1
  replace xa2 := (h2.cell (p := ⟨_, _, none⟩) (by (try dsimp only) <;> omega)).trans xa2
  replace xa3 := (h2.cell (p := ⟨_, _, none⟩) (by (try dsimp only) <;> omega)).trans xa3
  replace ya0 := (h2.cell (p := ⟨_, _, none⟩) (by (try dsimp only) <;> omega)).trans ya0
  replace ya1 := (h2.cell (p := ⟨_, _, none⟩) (by (try dsimp only) <;> omega)).trans ya1
  replace ya2 := (h2.cell (p := ⟨_, _, none⟩) (by (try dsimp only) <;> omega)).trans ya2
  replace ya3 := (h2.cell (p := ⟨_, _, none⟩) (by (try dsimp only) <;> omega)).trans ya3
  replace ea0 := (h2.cell (p := ⟨_, _, none⟩) (by (try dsimp only) <;> omega)).trans ea0
  replace ea1 := (h2.cell (p := ⟨_, _, none⟩) (by (try dsimp only) <;> omega)).trans ea1
  replace ea2 := (h2.cell (p := ⟨_, _, none⟩) (by (try dsimp only) <;> omega)).trans ea2
  replace ea3 := (h2.cell (p := ⟨_, _, none⟩) (by (try dsimp only) <;> omega)).trans ea3
  replace ea4 := (h2.cell (p := ⟨_, _, none⟩) (by (try dsimp only) <;> omega)).trans ea4
  replace ea5 := (h2.cell (p := ⟨_, _, none⟩) (by (try dsimp only) <;> omega)).trans ea5
  replace ea6 := (h2.cell (p := ⟨_, _, none⟩) (by (try dsimp only) <;> omega)).trans ea6
  replace ea7 := (h2.cell (p := ⟨_, _, none⟩) (by (try dsimp only) <;> omega)).trans ea7
  replace ea8 := (h2.cell (p := ⟨_, _, none⟩) (by (try dsimp only) <;> omega)).trans ea8
  have z2 := h2.size
  replace hT := hT.trans (h2.mono (by omega))
  clear h2
  cases m
  · go_wp2_with fail
    refine (awake_any _).mono ?_
    rintro r w9 ⟨rfl, hb9⟩
    have hbE := hT.trans (hb9.mono (by omega))
    go_wp2_with fail
    go_ret
    exact ⟨rfl, hbE⟩
  go_wp2_with fail
  refine (not_any e x _ HX.out).mono ?_
  rintro r c3 ⟨p1, rfl, h3, hx⟩
  replace HX := Lib.hid (HX.out.on h3)
  replace HY := Lib.hid (HY.out.on h3)
  replace xa0 := (h3.cell (p := ⟨_, _, none⟩) (by (try dsimp only) <;> omega)).trans xa0
  replace xa1 := (h3.cell (p := ⟨_, _, none⟩) (by (try dsimp only) <;> omega)).trans xa1
  replace xa2 := (h3.cell (p := ⟨_, _, none⟩) (by (try dsimp only) <;> omega)).trans xa2
  replace xa3 := (h3.cell (p := ⟨_, _, none⟩) (by (try dsimp only) <;> omega)).trans xa3
  replace ya0 := (h3.cell (p := ⟨_, _, none⟩) (by (try dsimp only) <;> omega)).trans ya0
  replace ya1 := (h3.cell (p := ⟨_, _, none⟩) (by (try dsimp only) <;> omega)).trans ya1
  replace ya2 := (h3.cell (p := ⟨_, _, none⟩) (by (try dsimp only) <;> omega)).trans ya2
  replace ya3 := (h3.cell (p := ⟨_, _, none⟩) (by (try dsimp only) <;> omega)).trans ya3
  replace ea0 := (h3.cell (p := ⟨_, _, none⟩) (by (try dsimp only) <;> omega)).trans ea0
  replace ea1 := (h3.cell (p := ⟨_, _, none⟩) (by (try dsimp only) <;> omega)).trans ea1
  replace ea2 := (h3.cell (p := ⟨_, _, none⟩) (by (try dsimp only) <;> omega)).trans ea2
  replace ea3 := (h3.cell (p := ⟨_, _, none⟩) (by (try dsimp only) <;> omega)).trans ea3
  replace ea4 := (h3.cell (p := ⟨_, _, none⟩) (by (try dsimp only) <;> omega)).trans ea4
  replace ea5 := (h3.cell (p := ⟨_, _, none⟩) (by (try dsimp only) <;> omega)).trans ea5
  replace ea6 := (h3.cell (p := ⟨_, _, none⟩) (by (try dsimp only) <;> omega)).trans ea6
  replace ea7 := (h3.cell (p := ⟨_, _, none⟩) (by (try dsimp only) <;> omega)).trans ea7
  replace ea8 := (h3.cell (p := ⟨_, _, none⟩) (by (try dsimp only) <;> omega)).trans ea8
  have z3 := h3.size
  replace hT := hT.trans (h3.mono (by omega))
  have Hp1 := Lib.hid hx
  clear hx
  clear h3
  try unfold It.val
  go_wp2_with fail
  refine (not_any (Nn e) p1 _ Hp1.out).mono ?_
  rintro r c4 ⟨p2, rfl, h4, hx⟩
  replace HX := Lib.hid (HX.out.on h4)
  replace HY := Lib.hid (HY.out.on h4)
  replace Hp1 := Lib.hid (Hp1.out.on h4)
  replace xa0 := (h4.cell (p := ⟨_, _, none⟩) (by (try dsimp only) <;> omega)).trans xa0
  replace xa1 := (h4.cell (p := ⟨_, _, none⟩) (by (try dsimp only) <;> omega)).trans xa1
  replace xa2 := (h4.cell (p := ⟨_, _, none⟩) (by (try dsimp only) <;> omega)).trans xa2
  replace xa3 := (h4.cell (p := ⟨_, _, none⟩) (by (try dsimp only) <;> omega)).trans xa3
  replace ya0 := (h4.cell (p := ⟨_, _, none⟩) (by (try dsimp only) <;> omega)).trans ya0
  replace ya1 := (h4.cell (p := ⟨_, _, none⟩) (by (try dsimp only) <;> omega)).trans ya1
  replace ya2 := (h4.cell (p := ⟨_, _, none⟩) (by (try dsimp only) <;> omega)).trans ya2
  replace ya3 := (h4.cell (p := ⟨_, _, none⟩) (by (try dsimp only) <;> omega)).trans ya3
  replace ea0 := (h4.cell (p := ⟨_, _, none⟩) (by (try dsimp only) <;> omega)).trans ea0
  replace ea1 := (h4.cell (p := ⟨_, _, none⟩) (by (try dsimp only) <;> omega)).trans ea1
  replace ea2 := (h4.cell (p := ⟨_, _, none⟩) (by (try dsimp only) <;> omega)).trans ea2
  replace ea3 := (h4.cell (p := ⟨_, _, none⟩) (by (try dsimp only) <;> omega)).trans ea3
  replace ea4 := (h4.cell (p := ⟨_, _, none⟩) (by (try dsimp only) <;> omega)).trans ea4
  replace ea5 := (h4.cell (p := ⟨_, _, none⟩) (by (try dsimp only) <;> omega)).trans ea5
  replace ea6 := (h4.cell (p := ⟨_, _, none⟩) (by (try dsimp only) <;> omega)).trans ea6
  replace ea7 := (h4.cell (p := ⟨_, _, none⟩) (by (try dsimp only) <;> omega)).trans ea7
  replace ea8 := (h4.cell (p := ⟨_, _, none⟩) (by (try dsimp only) <;> omega)).trans ea8
  have z4 := h4.size
  replace hT := hT.trans (h4.mono (by omega))
  have Hp2 := Lib.hid hx
  clear hx
  clear h4
  try unfold It.val
  go_wp2_with fail
  clear Hp1
  refine (not_any (Nn (Nn e)) p2 _ Hp2.out).mono ?_
  rintro r c5 ⟨p3, rfl, h5, hx⟩
  replace HX := Lib.hid (HX.out.on h5)
  replace HY := Lib.hid (HY.out.on h5)
  replace Hp2 := Lib.hid (Hp2.out.on h5)
  replace xa0 := (h5.cell (p := ⟨_, _, none⟩) (by (try dsimp only) <;> omega)).trans xa0
  replace xa1 := (h5.cell (p := ⟨_, _, none⟩) (by (try dsimp only) <;> omega)).trans xa1
  replace xa2 := (h5.cell (p := ⟨_, _, none⟩) (by (try dsimp only) <;> omega)).trans xa2
  replace xa3 := (h5.cell (p := ⟨_, _, none⟩) (by (try dsimp only) <;> omega)).trans xa3
  replace ya0 := (h5.cell (p := ⟨_, _, none⟩) (by (try dsimp only) <;> omega)).trans ya0
  replace ya1 := (h5.cell (p := ⟨_, _, none⟩) (by (try dsimp only) <;> omega)).trans ya1
  replace ya2 := (h5.cell (p := ⟨_, _, none⟩) (by (try dsimp only) <;> omega)).trans ya2
  replace ya3 := (h5.cell (p := ⟨_, _, none⟩) (by (try dsimp only) <;> omega)).trans ya3
  replace ea0 := (h5.cell (p := ⟨_, _, none⟩) (by (try dsimp only) <;> omega)).trans ea0
  replace ea1 := (h5.cell (p := ⟨_, _, none⟩) (by (try dsimp only) <;> omega)).trans ea1
  replace ea2 := (h5.cell (p := ⟨_, _, none⟩) (by (try dsimp only) <;> omega)).trans ea2
  replace ea3 := (h5.cell (p := ⟨_, _, none⟩) (by (try dsimp only) <;> omega)).trans ea3
  replace ea4 := (h5.cell (p := ⟨_, _, none⟩) (by (try dsimp only) <;> omega)).trans ea4
  replace ea5 := (h5.cell (p := ⟨_, _, none⟩) (by (try dsimp only) <;> omega)).trans ea5
  replace ea6 := (h5.cell (p := ⟨_, _, none⟩) (by (try dsimp only) <;> omega)).trans ea6
  replace ea7 := (h5.cell (p := ⟨_, _, none⟩) (by (try dsimp only) <;> omega)).trans ea7
  replace ea8 := (h5.cell (p := ⟨_, _, none⟩) (by (try dsimp only) <;> omega)).trans ea8
  have z5 := h5.size
  replace hT := hT.trans (h5.mono (by omega))
  have Hp3 := Lib.hid hx
  clear hx
  clear h5
  try unfold It.val
  go_wp2_with fail
  clear Hp2
  refine (expr_s _ p3 _ ps py Hps.out Hp3.out).mono ?_
  rintro r c6 ⟨rfl, h6⟩
  replace HX := Lib.hid (HX.out.on h6)
  replace HY := Lib.hid (HY.out.on h6)
  replace Hp3 := Lib.hid (Hp3.out.on h6)
  replace xa0 := (h6.cell (p := ⟨_, _, none⟩) (by (try dsimp only) <;> omega)).trans xa0
  replace xa1 := (h6.cell (p := ⟨_, _, none⟩) (by (try dsimp only) <;> omega)).trans xa1
  replace xa2 := (h6.cell (p := ⟨_, _, none⟩) (by (try dsimp only) <;> omega)).trans xa2
  replace xa3 := (h6.cell (p := ⟨_, _, none⟩) (by (try dsimp only) <;> omega)).trans xa3
  replace ya0 := (h6.cell (p := ⟨_, _, none⟩) (by (try dsimp only) <;> omega)).trans ya0
  replace ya1 := (h6.cell (p := ⟨_, _, none⟩) (by (try dsimp only) <;> omega)).trans ya1
  replace ya2 := (h6.cell (p := ⟨_, _, none⟩) (by (try dsimp only) <;> omega)).trans ya2
  replace ya3 := (h6.cell (p := ⟨_, _, none⟩) (by (try dsimp only) <;> omega)).trans ya3
  replace ea0 := (h6.cell (p := ⟨_, _, none⟩) (by (try dsimp only) <;> omega)).trans ea0
  replace ea1 := (h6.cell (p := ⟨_, _, none⟩) (by (try dsimp only) <;> omega)).trans ea1
  replace ea2 := (h6.cell (p := ⟨_, _, none⟩) (by (try dsimp only) <;> omega)).trans ea2
  replace ea3 := (h6.cell (p := ⟨_, _, none⟩) (by (try dsimp only) <;> omega)).trans ea3
  replace ea4 := (h6.cell (p := ⟨_, _, none⟩) (by (try dsimp only) <;> omega)).trans ea4
  replace ea5 := (h6.cell (p := ⟨_, _, none⟩) (by (try dsimp only) <;> omega)).trans ea5
  replace ea6 := (h6.cell (p := ⟨_, _, none⟩) (by (try dsimp only) <;> omega)).trans ea6
  replace ea7 := (h6.cell (p := ⟨_, _, none⟩) (by (try dsimp only) <;> omega)).trans ea7
  replace ea8 := (h6.cell (p := ⟨_, _, none⟩) (by (try dsimp only) <;> omega)).trans ea8
  have z6 := h6.size
  replace hT := hT.trans (h6.mono (by omega))
  clear h6
  try unfold It.val
  go_wp2_with fail
  clear Hp3
  refine (not_any f y _ HY.out).mono ?_
  rintro r c7 ⟨q1, rfl, h7, hx⟩
  replace HX := Lib.hid (HX.out.on h7)
  replace HY := Lib.hid (HY.out.on h7)
  replace xa0 := (h7.cell (p := ⟨_, _, none⟩) (by (try dsimp only) <;> omega)).trans xa0
  replace xa1 := (h7.cell (p := ⟨_, _, none⟩) (by (try dsimp only) <;> omega)).trans xa1
  replace xa2 := (h7.cell (p := ⟨_, _, none⟩) (by (try dsimp only) <;> omega)).trans xa2
  replace xa3 := (h7.cell (p := ⟨_, _, none⟩) (by (try dsimp only) <;> omega)).trans xa3
  replace ya0 := (h7.cell (p := ⟨_, _, none⟩) (by (try dsimp only) <;> omega)).trans ya0
  replace ya1 := (h7.cell (p := ⟨_, _, none⟩) (by (try dsimp only) <;> omega)).trans ya1
  replace ya2 := (h7.cell (p := ⟨_, _, none⟩) (by (try dsimp only) <;> omega)).trans ya2
  replace ya3 := (h7.cell (p := ⟨_, _, none⟩) (by (try dsimp only) <;> omega)).trans ya3
  replace ea0 := (h7.cell (p := ⟨_, _, none⟩) (by (try dsimp only) <;> omega)).trans ea0
  replace ea1 := (h7.cell (p := ⟨_, _, none⟩) (by (try dsimp only) <;> omega)).trans ea1
  replace ea2 := (h7.cell (p := ⟨_, _, none⟩) (by (try dsimp only) <;> omega)).trans ea2
  replace ea3 := (h7.cell (p := ⟨_, _, none⟩) (by (try dsimp only) <;> omega)).trans ea3
  replace ea4 := (h7.cell (p := ⟨_, _, none⟩) (by (try dsimp only) <;> omega)).trans ea4
  replace ea5 := (h7.cell (p := ⟨_, _, none⟩) (by (try dsimp only) <;> omega)).trans ea5
  replace ea6 := (h7.cell (p := ⟨_, _, none⟩) (by (try dsimp only) <;> omega)).trans ea6
  replace ea7 := (h7.cell (p := ⟨_, _, none⟩) (by (try dsimp only) <;> omega)).trans ea7
  replace ea8 := (h7.cell (p := ⟨_, _, none⟩) (by (try dsimp only) <;> omega)).trans ea8
  have z7 := h7.size
  replace hT := hT.trans (h7.mono (by omega))
  have Hq1 := Lib.hid hx
  clear hx
  clear h7
  try unfold It.val
  go_wp2_with fail
  refine (not_any (Nn f) q1 _ Hq1.out).mono ?_
  rintro r c8 ⟨q2, rfl, h8, hx⟩
  replace HX := Lib.hid (HX.out.on h8)
  replace HY := Lib.hid (HY.out.on h8)
  replace Hq1 := Lib.hid (Hq1.out.on h8)
  replace xa0 := (h8.cell (p := ⟨_, _, none⟩) (by (try dsimp only) <;> omega)).trans xa0
  replace xa1 := (h8.cell (p := ⟨_, _, none⟩) (by (try dsimp only) <;> omega)).trans xa1
  replace xa2 := (h8.cell (p := ⟨_, _, none⟩) (by (try dsimp only) <;> omega)).trans xa2
  replace xa3 := (h8.cell (p := ⟨_, _, none⟩) (by (try dsimp only) <;> omega)).trans xa3
  replace ya0 := (h8.cell (p := ⟨_, _, none⟩) (by (try dsimp only) <;> omega)).trans ya0
  replace ya1 := (h8.cell (p := ⟨_, _, none⟩) (by (try dsimp only) <;> omega)).trans ya1
  replace ya2 := (h8.cell (p := ⟨_, _, none⟩) (by (try dsimp only) <;> omega)).trans ya2
  replace ya3 := (h8.cell (p := ⟨_, _, none⟩) (by (try dsimp only) <;> omega)).trans ya3
  replace ea0 := (h8.cell (p := ⟨_, _, none⟩) (by (try dsimp only) <;> omega)).trans ea0
  replace ea1 := (h8.cell (p := ⟨_, _, none⟩) (by (try dsimp only) <;> omega)).trans ea1
  replace ea2 := (h8.cell (p := ⟨_, _, none⟩) (by (try dsimp only) <;> omega)).trans ea2
  replace ea3 := (h8.cell (p := ⟨_, _, none⟩) (by (try dsimp only) <;> omega)).trans ea3
  replace ea4 := (h8.cell (p := ⟨_, _, none⟩) (by (try dsimp only) <;> omega)).trans ea4
  replace ea5 := (h8.cell (p := ⟨_, _, none⟩) (by (try dsimp only) <;> omega)).trans ea5
  replace ea6 := (h8.cell (p := ⟨_, _, none⟩) (by (try dsimp only) <;> omega)).trans ea6
  replace ea7 := (h8.cell (p := ⟨_, _, none⟩) (by (try dsimp only) <;> omega)).trans ea7
  replace ea8 := (h8.cell (p := ⟨_, _, none⟩) (by (try dsimp only) <;> omega)).trans ea8
  have z8 := h8.size
  replace hT := hT.trans (h8.mono (by omega))
  have Hq2 := Lib.hid hx
  clear hx
  clear h8
  try unfold It.val
  go_wp2_with fail
  clear Hq1
  refine (not_any (Nn (Nn f)) q2 _ Hq2.out).mono ?_
  rintro r c9 ⟨q3, rfl, h9, hx⟩
  replace HX := Lib.hid (HX.out.on h9)
  replace HY := Lib.hid (HY.out.on h9)
  replace Hq2 := Lib.hid (Hq2.out.on h9)
  replace xa0 := (h9.cell (p := ⟨_, _, none⟩) (by (try dsimp only) <;> omega)).trans xa0
  replace xa1 := (h9.cell (p := ⟨_, _, none⟩) (by (try dsimp only) <;> omega)).trans xa1
  replace xa2 := (h9.cell (p := ⟨_, _, none⟩) (by (try dsimp only) <;> omega)).trans xa2
  replace xa3 := (h9.cell (p := ⟨_, _, none⟩) (by (try dsimp only) <;> omega)).trans xa3
  replace ya0 := (h9.cell (p := ⟨_, _, none⟩) (by (try dsimp only) <;> omega)).trans ya0
  replace ya1 := (h9.cell (p := ⟨_, _, none⟩) (by (try dsimp only) <;> omega)).trans ya1
  replace ya2 := (h9.cell (p := ⟨_, _, none⟩) (by (try dsimp only) <;> omega)).trans ya2
  replace ya3 := (h9.cell (p := ⟨_, _, none⟩) (by (try dsimp only) <;> omega)).trans ya3
  replace ea0 := (h9.cell (p := ⟨_, _, none⟩) (by (try dsimp only) <;> omega)).trans ea0
  replace ea1 := (h9.cell (p := ⟨_, _, none⟩) (by (try dsimp only) <;> omega)).trans ea1
  replace ea2 := (h9.cell (p := ⟨_, _, none⟩) (by (try dsimp only) <;> omega)).trans ea2
  replace ea3 := (h9.cell (p := ⟨_, _, none⟩) (by (try dsimp only) <;> omega)).trans ea3
  replace ea4 := (h9.cell (p := ⟨_, _, none⟩) (by (try dsimp only) <;> omega)).trans ea4
  replace ea5 := (h9.cell (p := ⟨_, _, none⟩) (by (try dsimp only) <;> omega)).trans ea5
  replace ea6 := (h9.cell (p := ⟨_, _, none⟩) (by (try dsimp only) <;> omega)).trans ea6
  replace ea7 := (h9.cell (p := ⟨_, _, none⟩) (by (try dsimp only) <;> omega)).trans ea7
  replace ea8 := (h9.cell (p := ⟨_, _, none⟩) (by (try dsimp only) <;> omega)).trans ea8
  have z9 := h9.size
  replace hT := hT.trans (h9.mono (by omega))
  have Hq3 := Lib.hid hx
  clear hx
  clear h9
  try unfold It.val
  go_wp2_with fail
  clear Hq2
  refine (expr_s _ q3 _ qs qy Hqs.out Hq3.out).mono ?_
  rintro r c10 ⟨rfl, h10⟩
  replace HX := Lib.hid (HX.out.on h10)
  replace HY := Lib.hid (HY.out.on h10)
  replace Hq3 := Lib.hid (Hq3.out.on h10)
  replace xa0 := (h10.cell (p := ⟨_, _, none⟩) (by (try dsimp only) <;> omega)).trans xa0
  replace xa1 := (h10.cell (p := ⟨_, _, none⟩) (by (try dsimp only) <;> omega)).trans xa1
  replace xa2 := (h10.cell (p := ⟨_, _, none⟩) (by (try dsimp only) <;> omega)).trans xa2
  replace xa3 := (h10.cell (p := ⟨_, _, none⟩) (by (try dsimp only) <;> omega)).trans xa3
  replace ya0 := (h10.cell (p := ⟨_, _, none⟩) (by (try dsimp only) <;> omega)).trans ya0
  replace ya1 := (h10.cell (p := ⟨_, _, none⟩) (by (try dsimp only) <;> omega)).trans ya1
  replace ya2 := (h10.cell (p := ⟨_, _, none⟩) (by (try dsimp only) <;> omega)).trans ya2
  replace ya3 := (h10.cell (p := ⟨_, _, none⟩) (by (try dsimp only) <;> omega)).trans ya3
  replace ea0 := (h10.cell (p := ⟨_, _, none⟩) (by (try dsimp only) <;> omega)).trans ea0
  replace ea1 := (h10.cell (p := ⟨_, _, none⟩) (by (try dsimp only) <;> omega)).trans ea1
  replace ea2 := (h10.cell (p := ⟨_, _, none⟩) (by (try dsimp only) <;> omega)).trans ea2
  replace ea3 := (h10.cell (p := ⟨_, _, none⟩) (by (try dsimp only) <;> omega)).trans ea3
  replace ea4 := (h10.cell (p := ⟨_, _, none⟩) (by (try dsimp only) <;> omega)).trans ea4
  replace ea5 := (h10.cell (p := ⟨_, _, none⟩) (by (try dsimp only) <;> omega)).trans ea5
  replace ea6 := (h10.cell (p := ⟨_, _, none⟩) (by (try dsimp only) <;> omega)).trans ea6
  replace ea7 := (h10.cell (p := ⟨_, _, none⟩) (by (try dsimp only) <;> omega)).trans ea7
  replace ea8 := (h10.cell (p := ⟨_, _, none⟩) (by (try dsimp only) <;> omega)).trans ea8
  have z10 := h10.size
  replace hT := hT.trans (h10.mono (by omega))
  clear h10
  try unfold It.val
  clear Hq3
  rcases (show (py ≠ 0) ∨ (py = 0 ∧ qy ≠ 0) ∨ (py = 0 ∧ qy = 0 ∧ ps ≠ 3) ∨ (py = 0 ∧ qy = 0 ∧ ps = 3 ∧ qs ≠ 3) ∨ (py = 0 ∧ qy = 0 ∧ ps = 3 ∧ qs = 3) by omega) with h1 | ⟨rfl, h1⟩ | ⟨rfl, rfl, h1⟩ | ⟨rfl, rfl, rfl, h1⟩ | ⟨rfl, rfl, rfl, rfl⟩
  · go_wp2_with fail
    refine (awake_any _).mono ?_
    rintro r w9 ⟨rfl, hb9⟩
    have hbE := hT.trans (hb9.mono (by omega))
    go_wp2_with fail
    go_ret
    exact ⟨rfl, hbE⟩
  · go_wp2_with fail
    refine (awake_any _).mono ?_
    rintro r w9 ⟨rfl, hb9⟩
    have hbE := hT.trans (hb9.mono (by omega))
    go_wp2_with fail
    go_ret
    exact ⟨rfl, hbE⟩
  · go_wp2_with fail
    refine (awake_any _).mono ?_
    rintro r w9 ⟨rfl, hb9⟩
    have hbE := hT.trans (hb9.mono (by omega))
    go_wp2_with fail
    go_ret
    exact ⟨rfl, hbE⟩
  · go_wp2_with fail
    refine (awake_any _).mono ?_
    rintro r w9 ⟨rfl, hb9⟩
    have hbE := hT.trans (hb9.mono (by omega))
    go_wp2_with fail
    go_ret
    exact ⟨rfl, hbE⟩
  · have O1 : Okd 13 e := Okd.of_not (Okd.of_not (Okd.of_not Hps.out))
    have P1 : Okd 13 f := Okd.of_not (Okd.of_not (Okd.of_not Hqs.out))
    clear Hps Hqs
    obtain ⟨a, hta⟩ : ∃ a, topH v e = a := ⟨_, rfl⟩
    obtain ⟨b, htb⟩ : ∃ b, topH v f = b := ⟨_, rfl⟩
    cases a <;> cases b
    · have F1 := Lib.hid hta
      have F2 := Lib.hid htb
      have G1 := Lib.hid (show topH v (Nn e) = true by rw [O1.topNot (by omega)]; simp only [O1.topNot (v := v) (by omega), P1.topNot (v := v) (by omega), O1.topAnd (v := v) P1 (by omega), O1.topOr (v := v) P1 (by omega), hta, htb]; rfl)
      have G2 := Lib.hid (show topH v (Nn (Nn e)) = false by rw [O1.not.topNot (by omega)]; simp only [O1.topNot (v := v) (by omega), P1.topNot (v := v) (by omega), O1.topAnd (v := v) P1 (by omega), O1.topOr (v := v) P1 (by omega), hta, htb]; rfl)
      have G3 := Lib.hid (show topH v (Tw 5 e f) = false by rw [O1.topAnd P1 (by omega)]; simp only [O1.topNot (v := v) (by omega), P1.topNot (v := v) (by omega), O1.topAnd (v := v) P1 (by omega), O1.topOr (v := v) P1 (by omega), hta, htb]; rfl)
      have G4 := Lib.hid (show topH v (Tw 6 e f) = false by rw [O1.topOr P1 (by omega)]; simp only [O1.topNot (v := v) (by omega), P1.topNot (v := v) (by omega), O1.topAnd (v := v) P1 (by omega), O1.topOr (v := v) P1 (by omega), hta, htb]; rfl)
      have G5 := Lib.hid (show topH v (Nn (Tw 5 e f)) = true by rw [(O1.and P1).topNot (by omega)]; simp only [O1.topNot (v := v) (by omega), P1.topNot (v := v) (by omega), O1.topAnd (v := v) P1 (by omega), O1.topOr (v := v) P1 (by omega), hta, htb]; rfl)
      have G6 := Lib.hid (show topH v (Tw 6 (Nn e) (Nn f)) = true by rw [O1.not.topOr P1.not (by omega)]; simp only [O1.topNot (v := v) (by omega), P1.topNot (v := v) (by omega), O1.topAnd (v := v) P1 (by omega), O1.topOr (v := v) P1 (by omega), hta, htb]; rfl)
      have G7 := Lib.hid (show topH v (Nn (Tw 6 e f)) = true by rw [(O1.or P1).topNot (by omega)]; simp only [O1.topNot (v := v) (by omega), P1.topNot (v := v) (by omega), O1.topAnd (v := v) P1 (by omega), O1.topOr (v := v) P1 (by omega), hta, htb]; rfl)
      have G8 := Lib.hid (show topH v (Tw 5 (Nn e) (Nn f)) = true by rw [O1.not.topAnd P1.not (by omega)]; simp only [O1.topNot (v := v) (by omega), P1.topNot (v := v) (by omega), O1.topAnd (v := v) P1 (by omega), O1.topOr (v := v) P1 (by omega), hta, htb]; rfl)
      clear hta htb O1 P1
      go_wp2_with fail
      have hp0 : w.heap.size < c10.heap.size := by omega
      have hp1 : w.heap.size + 1 < c10.heap.size := by omega
      have hp2 : w.heap.size + 1 + 1 < c10.heap.size := by omega
      ((with_reducible refine region_trees ([]) ?_ ?_ ?_ ?_ ?_); kernel_rfl; kernel_rfl; rfl; rfl; intro hnonemp hcr; (repeat (first | (refine mix_plain rfl rfl rfl ?_; (first | go_big_quiet_skip | (go_big_quiet_want; go_big_quiet_op; go_big_quiet_on)); refine wpQuiet_nil ?_) | (refine call_skip rfl rfl (by simp only [Act.put, List.setIfInBounds_toArray, List.set_cons_succ, List.set_cons_zero]; rfl) ?_) | (refine call_at 55 rfl ?_; (refine call_one (.bool false) Try.func16 (by kernel_rfl) rfl rfl rfl rfl (by simp only [Act.put, List.setIfInBounds_toArray, List.set_cons_succ, List.set_cons_zero]; rfl) (fun z vals hv => ?_) ?_; (have hc := Holds_top v _ x z.w (HX.out.on z.h); rw [F1.out] at hc; exact ⟨_, (by first | (simp [ev, Act.eval, Env.val] <;> rfl) | (simp [ev, Act.eval, It.val, Env.val]; done)), hc⟩))) | (refine call_at 58 rfl ?_; (refine call_one (.bool false) Try.func16 (by kernel_rfl) rfl rfl rfl rfl (by simp only [Act.put, List.setIfInBounds_toArray, List.set_cons_succ, List.set_cons_zero]; rfl) (fun z vals hv => ?_) ?_; (have hc := Holds_top v _ y z.w (HY.out.on z.h); rw [F2.out] at hc; exact ⟨_, (by first | (simp [ev, Act.eval, Env.val] <;> rfl) | (simp [ev, Act.eval, It.val, Env.val]; done)), hc⟩))))); intro wq vals hgq; simp only [over, Nt, List.map_cons, List.map_nil, List.foldl_cons, List.foldl_nil, Act.put, List.setIfInBounds_toArray, List.set_cons_succ, List.set_cons_zero]; clear hcr)
      clear hp0 hp1 hp2
      replace HX := Lib.hid (HX.out.on hgq)
      replace HY := Lib.hid (HY.out.on hgq)
      replace xa0 := (hgq.cell (p := ⟨_, _, none⟩) (by (try dsimp only) <;> omega)).trans xa0
      replace xa1 := (hgq.cell (p := ⟨_, _, none⟩) (by (try dsimp only) <;> omega)).trans xa1
      replace xa2 := (hgq.cell (p := ⟨_, _, none⟩) (by (try dsimp only) <;> omega)).trans xa2
      replace xa3 := (hgq.cell (p := ⟨_, _, none⟩) (by (try dsimp only) <;> omega)).trans xa3
      replace ya0 := (hgq.cell (p := ⟨_, _, none⟩) (by (try dsimp only) <;> omega)).trans ya0
      replace ya1 := (hgq.cell (p := ⟨_, _, none⟩) (by (try dsimp only) <;> omega)).trans ya1
      replace ya2 := (hgq.cell (p := ⟨_, _, none⟩) (by (try dsimp only) <;> omega)).trans ya2
      replace ya3 := (hgq.cell (p := ⟨_, _, none⟩) (by (try dsimp only) <;> omega)).trans ya3
      replace ea0 := (hgq.cell (p := ⟨_, _, none⟩) (by (try dsimp only) <;> omega)).trans ea0
      replace ea1 := (hgq.cell (p := ⟨_, _, none⟩) (by (try dsimp only) <;> omega)).trans ea1
      replace ea2 := (hgq.cell (p := ⟨_, _, none⟩) (by (try dsimp only) <;> omega)).trans ea2
      replace ea3 := (hgq.cell (p := ⟨_, _, none⟩) (by (try dsimp only) <;> omega)).trans ea3
      replace ea4 := (hgq.cell (p := ⟨_, _, none⟩) (by (try dsimp only) <;> omega)).trans ea4
      replace ea5 := (hgq.cell (p := ⟨_, _, none⟩) (by (try dsimp only) <;> omega)).trans ea5
      replace ea6 := (hgq.cell (p := ⟨_, _, none⟩) (by (try dsimp only) <;> omega)).trans ea6
      replace ea7 := (hgq.cell (p := ⟨_, _, none⟩) (by (try dsimp only) <;> omega)).trans ea7
      replace ea8 := (hgq.cell (p := ⟨_, _, none⟩) (by (try dsimp only) <;> omega)).trans ea8
      have zd1 := hgq.size
      replace hT := hT.trans (hgq.mono (by omega))
      clear hgq
      try clear vals
      obtain ⟨d1, rfl⟩ : ∃ d1, d1 = wq := ⟨_, rfl⟩
      go_wp2_with fail
      have hp0 : w.heap.size < d1.heap.size := by omega
      have hp1 : w.heap.size + 1 < d1.heap.size := by omega
      have hp2 : w.heap.size + 1 + 1 < d1.heap.size := by omega
      ((with_reducible refine region_trees ([(60, (Nn e)), (67, (Nn e)), (68, (Nn (Nn e))), (77, (Tw 5 e f)), (89, (Tw 6 e f))]) ?_ ?_ ?_ ?_ ?_); kernel_rfl; kernel_rfl; rfl; rfl; intro hnonemp hcr; (repeat (first | (refine mix_plain rfl rfl rfl ?_; (first | go_big_quiet_skip | (go_big_quiet_want; go_big_quiet_op; go_big_quiet_on)); refine wpQuiet_nil ?_) | (refine call_skip rfl rfl (by simp only [Act.put, List.setIfInBounds_toArray, List.set_cons_succ, List.set_cons_zero]; rfl) ?_) | (refine call_tree 60 ((Nn e)) rfl Try.func21 (by kernel_rfl) rfl rfl rfl rfl (by simp only [Act.put, List.setIfInBounds_toArray, List.set_cons_succ, List.set_cons_zero]; rfl) (fun z vals hv => ?_) ?_; (exact ⟨_, (by first | (simp [ev, Act.eval] <;> rfl) | (simp [ev, Act.eval, It.val]; done)), not_any e x z.w (HX.out.on z.h)⟩)) | (refine call_tree 67 ((Nn e)) rfl Try.func21 (by kernel_rfl) rfl rfl rfl rfl (by simp only [Act.put, List.setIfInBounds_toArray, List.set_cons_succ, List.set_cons_zero]; rfl) (fun z vals hv => ?_) ?_; (exact ⟨_, (by first | (simp [ev, Act.eval] <;> rfl) | (simp [ev, Act.eval, It.val]; done)), not_any e x z.w (HX.out.on z.h)⟩)) | (refine call_tree 68 ((Nn (Nn e))) rfl Try.func21 (by kernel_rfl) rfl rfl rfl rfl (by simp only [Act.put, List.setIfInBounds_toArray, List.set_cons_succ, List.set_cons_zero]; rfl) (fun z vals hv => ?_) ?_; (obtain ⟨y1, e1, r1⟩ := hv 67 _ rfl (by simp); exact ⟨_, (by first | (simp [ev, Act.eval, e1] <;> rfl) | (simp [ev, Act.eval, It.val, e1]; done)), not_any (Nn e) y1 z.w r1⟩)) | (refine call_tree 77 ((Tw 5 e f)) rfl Try.func19 (by kernel_rfl) rfl rfl rfl rfl (by simp only [Act.put, List.setIfInBounds_toArray, List.set_cons_succ, List.set_cons_zero]; rfl) (fun z vals hv => ?_) ?_; (exact ⟨_, (by first | (simp [ev, Act.eval] <;> rfl) | (simp [ev, Act.eval, It.val]; done)), two_any 5 e f x y z.w (HX.out.on z.h) (HY.out.on z.h)⟩)) | (refine call_tree 89 ((Tw 6 e f)) rfl Try.func19 (by kernel_rfl) rfl rfl rfl rfl (by simp only [Act.put, List.setIfInBounds_toArray, List.set_cons_succ, List.set_cons_zero]; rfl) (fun z vals hv => ?_) ?_; (exact ⟨_, (by first | (simp [ev, Act.eval] <;> rfl) | (simp [ev, Act.eval, It.val]; done)), two_any 6 e f x y z.w (HX.out.on z.h) (HY.out.on z.h)⟩)) | (refine call_at 62 rfl ?_; (refine call_one (.bool true) Try.func16 (by kernel_rfl) rfl rfl rfl rfl (by simp only [Act.put, List.setIfInBounds_toArray, List.set_cons_succ, List.set_cons_zero]; rfl) (fun z vals hv => ?_) ?_; (obtain ⟨y1, e1, r1⟩ := hv 60 _ rfl (by simp); have hc := Holds_top v _ y1 z.w r1; rw [G1.out] at hc; exact ⟨_, (by first | (simp [ev, Act.eval, e1, Env.val] <;> rfl) | (simp [ev, Act.eval, It.val, e1, Env.val]; done)), hc⟩))) | (refine call_at 70 rfl ?_; (refine call_one (.bool false) Try.func16 (by kernel_rfl) rfl rfl rfl rfl (by simp only [Act.put, List.setIfInBounds_toArray, List.set_cons_succ, List.set_cons_zero]; rfl) (fun z vals hv => ?_) ?_; (obtain ⟨y1, e1, r1⟩ := hv 68 _ rfl (by simp); have hc := Holds_top v _ y1 z.w r1; rw [G2.out] at hc; exact ⟨_, (by first | (simp [ev, Act.eval, e1, Env.val] <;> rfl) | (simp [ev, Act.eval, It.val, e1, Env.val]; done)), hc⟩))) | (refine call_at 79 rfl ?_; (refine call_one (.bool false) Try.func16 (by kernel_rfl) rfl rfl rfl rfl (by simp only [Act.put, List.setIfInBounds_toArray, List.set_cons_succ, List.set_cons_zero]; rfl) (fun z vals hv => ?_) ?_; (obtain ⟨y1, e1, r1⟩ := hv 77 _ rfl (by simp); have hc := Holds_top v _ y1 z.w r1; rw [G3.out] at hc; exact ⟨_, (by first | (simp [ev, Act.eval, e1, Env.val] <;> rfl) | (simp [ev, Act.eval, It.val, e1, Env.val]; done)), hc⟩))) | (refine call_at 91 rfl ?_; (refine call_one (.bool false) Try.func16 (by kernel_rfl) rfl rfl rfl rfl (by simp only [Act.put, List.setIfInBounds_toArray, List.set_cons_succ, List.set_cons_zero]; rfl) (fun z vals hv => ?_) ?_; (obtain ⟨y1, e1, r1⟩ := hv 89 _ rfl (by simp); have hc := Holds_top v _ y1 z.w r1; rw [G4.out] at hc; exact ⟨_, (by first | (simp [ev, Act.eval, e1, Env.val] <;> rfl) | (simp [ev, Act.eval, It.val, e1, Env.val]; done)), hc⟩))))); intro wq vals hgq; simp only [over, Nt, List.map_cons, List.map_nil, List.foldl_cons, List.foldl_nil, Act.put, List.setIfInBounds_toArray, List.set_cons_succ, List.set_cons_zero]; clear hcr)
      clear hp0 hp1 hp2
      replace HX := Lib.hid (HX.out.on hgq)
      replace HY := Lib.hid (HY.out.on hgq)
      replace xa0 := (hgq.cell (p := ⟨_, _, none⟩) (by (try dsimp only) <;> omega)).trans xa0
      replace xa1 := (hgq.cell (p := ⟨_, _, none⟩) (by (try dsimp only) <;> omega)).trans xa1
      replace xa2 := (hgq.cell (p := ⟨_, _, none⟩) (by (try dsimp only) <;> omega)).trans xa2
      replace xa3 := (hgq.cell (p := ⟨_, _, none⟩) (by (try dsimp only) <;> omega)).trans xa3
      replace ya0 := (hgq.cell (p := ⟨_, _, none⟩) (by (try dsimp only) <;> omega)).trans ya0
      replace ya1 := (hgq.cell (p := ⟨_, _, none⟩) (by (try dsimp only) <;> omega)).trans ya1
      replace ya2 := (hgq.cell (p := ⟨_, _, none⟩) (by (try dsimp only) <;> omega)).trans ya2
      replace ya3 := (hgq.cell (p := ⟨_, _, none⟩) (by (try dsimp only) <;> omega)).trans ya3
      replace ea0 := (hgq.cell (p := ⟨_, _, none⟩) (by (try dsimp only) <;> omega)).trans ea0
      replace ea1 := (hgq.cell (p := ⟨_, _, none⟩) (by (try dsimp only) <;> omega)).trans ea1
      replace ea2 := (hgq.cell (p := ⟨_, _, none⟩) (by (try dsimp only) <;> omega)).trans ea2
      replace ea3 := (hgq.cell (p := ⟨_, _, none⟩) (by (try dsimp only) <;> omega)).trans ea3
      replace ea4 := (hgq.cell (p := ⟨_, _, none⟩) (by (try dsimp only) <;> omega)).trans ea4
      replace ea5 := (hgq.cell (p := ⟨_, _, none⟩) (by (try dsimp only) <;> omega)).trans ea5
      replace ea6 := (hgq.cell (p := ⟨_, _, none⟩) (by (try dsimp only) <;> omega)).trans ea6
      replace ea7 := (hgq.cell (p := ⟨_, _, none⟩) (by (try dsimp only) <;> omega)).trans ea7
      replace ea8 := (hgq.cell (p := ⟨_, _, none⟩) (by (try dsimp only) <;> omega)).trans ea8
      have zd2 := hgq.size
      replace hT := hT.trans (hgq.mono (by omega))
      clear hgq
      try clear vals
      obtain ⟨d2, rfl⟩ : ∃ d2, d2 = wq := ⟨_, rfl⟩
      go_wp2_with fail
      have hp0 : w.heap.size < d2.heap.size := by omega
      have hp1 : w.heap.size + 1 < d2.heap.size := by omega
      have hp2 : w.heap.size + 1 + 1 < d2.heap.size := by omega
      ((with_reducible refine region_trees ([(100, (Tw 5 e f)), (101, (Nn (Tw 5 e f))), (105, (Nn e)), (107, (Nn f)), (108, (Tw 6 (Nn e) (Nn f))), (115, (Tw 6 e f)), (116, (Nn (Tw 6 e f))), (120, (Nn e)), (122, (Nn f)), (123, (Tw 5 (Nn e) (Nn f)))]) ?_ ?_ ?_ ?_ ?_); kernel_rfl; kernel_rfl; rfl; rfl; intro hnonemp hcr; (repeat (first | (refine mix_plain rfl rfl rfl ?_; (first | go_big_quiet_skip | (go_big_quiet_want; go_big_quiet_op; go_big_quiet_on)); refine wpQuiet_nil ?_) | (refine call_skip rfl rfl (by simp only [Act.put, List.setIfInBounds_toArray, List.set_cons_succ, List.set_cons_zero]; rfl) ?_) | (refine call_tree 100 ((Tw 5 e f)) rfl Try.func19 (by kernel_rfl) rfl rfl rfl rfl (by simp only [Act.put, List.setIfInBounds_toArray, List.set_cons_succ, List.set_cons_zero]; rfl) (fun z vals hv => ?_) ?_; (exact ⟨_, (by first | (simp [ev, Act.eval] <;> rfl) | (simp [ev, Act.eval, It.val]; done)), two_any 5 e f x y z.w (HX.out.on z.h) (HY.out.on z.h)⟩)) | (refine call_tree 101 ((Nn (Tw 5 e f))) rfl Try.func21 (by kernel_rfl) rfl rfl rfl rfl (by simp only [Act.put, List.setIfInBounds_toArray, List.set_cons_succ, List.set_cons_zero]; rfl) (fun z vals hv => ?_) ?_; (obtain ⟨y1, e1, r1⟩ := hv 100 _ rfl (by simp); exact ⟨_, (by first | (simp [ev, Act.eval, e1] <;> rfl) | (simp [ev, Act.eval, It.val, e1]; done)), not_any (Tw 5 e f) y1 z.w r1⟩)) | (refine call_tree 105 ((Nn e)) rfl Try.func21 (by kernel_rfl) rfl rfl rfl rfl (by simp only [Act.put, List.setIfInBounds_toArray, List.set_cons_succ, List.set_cons_zero]; rfl) (fun z vals hv => ?_) ?_; (exact ⟨_, (by first | (simp [ev, Act.eval] <;> rfl) | (simp [ev, Act.eval, It.val]; done)), not_any e x z.w (HX.out.on z.h)⟩)) | (refine call_tree 107 ((Nn f)) rfl Try.func21 (by kernel_rfl) rfl rfl rfl rfl (by simp only [Act.put, List.setIfInBounds_toArray, List.set_cons_succ, List.set_cons_zero]; rfl) (fun z vals hv => ?_) ?_; (exact ⟨_, (by first | (simp [ev, Act.eval] <;> rfl) | (simp [ev, Act.eval, It.val]; done)), not_any f y z.w (HY.out.on z.h)⟩)) | (refine call_tree 108 ((Tw 6 (Nn e) (Nn f))) rfl Try.func19 (by kernel_rfl) rfl rfl rfl rfl (by simp only [Act.put, List.setIfInBounds_toArray, List.set_cons_succ, List.set_cons_zero]; rfl) (fun z vals hv => ?_) ?_; (obtain ⟨y1, e1, r1⟩ := hv 105 _ rfl (by simp); obtain ⟨y2, e2, r2⟩ := hv 107 _ rfl (by simp); exact ⟨_, (by first | (simp [ev, Act.eval, e1, e2] <;> rfl) | (simp [ev, Act.eval, It.val, e1, e2]; done)), two_any 6 (Nn e) (Nn f) y1 y2 z.w r1 r2⟩)) | (refine call_tree 115 ((Tw 6 e f)) rfl Try.func19 (by kernel_rfl) rfl rfl rfl rfl (by simp only [Act.put, List.setIfInBounds_toArray, List.set_cons_succ, List.set_cons_zero]; rfl) (fun z vals hv => ?_) ?_; (exact ⟨_, (by first | (simp [ev, Act.eval] <;> rfl) | (simp [ev, Act.eval, It.val]; done)), two_any 6 e f x y z.w (HX.out.on z.h) (HY.out.on z.h)⟩)) | (refine call_tree 116 ((Nn (Tw 6 e f))) rfl Try.func21 (by kernel_rfl) rfl rfl rfl rfl (by simp only [Act.put, List.setIfInBounds_toArray, List.set_cons_succ, List.set_cons_zero]; rfl) (fun z vals hv => ?_) ?_; (obtain ⟨y1, e1, r1⟩ := hv 115 _ rfl (by simp); exact ⟨_, (by first | (simp [ev, Act.eval, e1] <;> rfl) | (simp [ev, Act.eval, It.val, e1]; done)), not_any (Tw 6 e f) y1 z.w r1⟩)) | (refine call_tree 120 ((Nn e)) rfl Try.func21 (by kernel_rfl) rfl rfl rfl rfl (by simp only [Act.put, List.setIfInBounds_toArray, List.set_cons_succ, List.set_cons_zero]; rfl) (fun z vals hv => ?_) ?_; (exact ⟨_, (by first | (simp [ev, Act.eval] <;> rfl) | (simp [ev, Act.eval, It.val]; done)), not_any e x z.w (HX.out.on z.h)⟩)) | (refine call_tree 122 ((Nn f)) rfl Try.func21 (by kernel_rfl) rfl rfl rfl rfl (by simp only [Act.put, List.setIfInBounds_toArray, List.set_cons_succ, List.set_cons_zero]; rfl) (fun z vals hv => ?_) ?_; (exact ⟨_, (by first | (simp [ev, Act.eval] <;> rfl) | (simp [ev, Act.eval, It.val]; done)), not_any f y z.w (HY.out.on z.h)⟩)) | (refine call_tree 123 ((Tw 5 (Nn e) (Nn f))) rfl Try.func19 (by kernel_rfl) rfl rfl rfl rfl (by simp only [Act.put, List.setIfInBounds_toArray, List.set_cons_succ, List.set_cons_zero]; rfl) (fun z vals hv => ?_) ?_; (obtain ⟨y1, e1, r1⟩ := hv 120 _ rfl (by simp); obtain ⟨y2, e2, r2⟩ := hv 122 _ rfl (by simp); exact ⟨_, (by first | (simp [ev, Act.eval, e1, e2] <;> rfl) | (simp [ev, Act.eval, It.val, e1, e2]; done)), two_any 5 (Nn e) (Nn f) y1 y2 z.w r1 r2⟩)) | (refine call_at 103 rfl ?_; (refine call_one (.bool true) Try.func16 (by kernel_rfl) rfl rfl rfl rfl (by simp only [Act.put, List.setIfInBounds_toArray, List.set_cons_succ, List.set_cons_zero]; rfl) (fun z vals hv => ?_) ?_; (obtain ⟨y1, e1, r1⟩ := hv 101 _ rfl (by simp); have hc := Holds_top v _ y1 z.w r1; rw [G5.out] at hc; exact ⟨_, (by first | (simp [ev, Act.eval, e1, Env.val] <;> rfl) | (simp [ev, Act.eval, It.val, e1, Env.val]; done)), hc⟩))) | (refine call_at 110 rfl ?_; (refine call_one (.bool true) Try.func16 (by kernel_rfl) rfl rfl rfl rfl (by simp only [Act.put, List.setIfInBounds_toArray, List.set_cons_succ, List.set_cons_zero]; rfl) (fun z vals hv => ?_) ?_; (obtain ⟨y1, e1, r1⟩ := hv 108 _ rfl (by simp); have hc := Holds_top v _ y1 z.w r1; rw [G6.out] at hc; exact ⟨_, (by first | (simp [ev, Act.eval, e1, Env.val] <;> rfl) | (simp [ev, Act.eval, It.val, e1, Env.val]; done)), hc⟩))) | (refine call_at 118 rfl ?_; (refine call_one (.bool true) Try.func16 (by kernel_rfl) rfl rfl rfl rfl (by simp only [Act.put, List.setIfInBounds_toArray, List.set_cons_succ, List.set_cons_zero]; rfl) (fun z vals hv => ?_) ?_; (obtain ⟨y1, e1, r1⟩ := hv 116 _ rfl (by simp); have hc := Holds_top v _ y1 z.w r1; rw [G7.out] at hc; exact ⟨_, (by first | (simp [ev, Act.eval, e1, Env.val] <;> rfl) | (simp [ev, Act.eval, It.val, e1, Env.val]; done)), hc⟩))) | (refine call_at 125 rfl ?_; (refine call_one (.bool true) Try.func16 (by kernel_rfl) rfl rfl rfl rfl (by simp only [Act.put, List.setIfInBounds_toArray, List.set_cons_succ, List.set_cons_zero]; rfl) (fun z vals hv => ?_) ?_; (obtain ⟨y1, e1, r1⟩ := hv 123 _ rfl (by simp); have hc := Holds_top v _ y1 z.w r1; rw [G8.out] at hc; exact ⟨_, (by first | (simp [ev, Act.eval, e1, Env.val] <;> rfl) | (simp [ev, Act.eval, It.val, e1, Env.val]; done)), hc⟩))) | (refine call_at 129 rfl ?_; (refine call_one (.bool true) Try.func11 (by kernel_rfl) rfl rfl rfl rfl (by simp only [Act.put, List.setIfInBounds_toArray, List.set_cons_succ, List.set_cons_zero]; rfl) (fun z vals hv => ?_) ?_; (exact ⟨_, (by first | (simp [ev, Act.eval] <;> rfl) | (simp [ev, Act.eval, It.val]; done)), awake_any z.w⟩))))); intro wq vals hgq; simp only [over, Nt, List.map_cons, List.map_nil, List.foldl_cons, List.foldl_nil, Act.put, List.setIfInBounds_toArray, List.set_cons_succ, List.set_cons_zero]; clear hcr)
      clear hp0 hp1 hp2
      replace HX := Lib.hid (HX.out.on hgq)
      replace HY := Lib.hid (HY.out.on hgq)
      replace xa0 := (hgq.cell (p := ⟨_, _, none⟩) (by (try dsimp only) <;> omega)).trans xa0
      replace xa1 := (hgq.cell (p := ⟨_, _, none⟩) (by (try dsimp only) <;> omega)).trans xa1
      replace xa2 := (hgq.cell (p := ⟨_, _, none⟩) (by (try dsimp only) <;> omega)).trans xa2
      replace xa3 := (hgq.cell (p := ⟨_, _, none⟩) (by (try dsimp only) <;> omega)).trans xa3
      replace ya0 := (hgq.cell (p := ⟨_, _, none⟩) (by (try dsimp only) <;> omega)).trans ya0
      replace ya1 := (hgq.cell (p := ⟨_, _, none⟩) (by (try dsimp only) <;> omega)).trans ya1
      replace ya2 := (hgq.cell (p := ⟨_, _, none⟩) (by (try dsimp only) <;> omega)).trans ya2
      replace ya3 := (hgq.cell (p := ⟨_, _, none⟩) (by (try dsimp only) <;> omega)).trans ya3
      replace ea0 := (hgq.cell (p := ⟨_, _, none⟩) (by (try dsimp only) <;> omega)).trans ea0
      replace ea1 := (hgq.cell (p := ⟨_, _, none⟩) (by (try dsimp only) <;> omega)).trans ea1
      replace ea2 := (hgq.cell (p := ⟨_, _, none⟩) (by (try dsimp only) <;> omega)).trans ea2
      replace ea3 := (hgq.cell (p := ⟨_, _, none⟩) (by (try dsimp only) <;> omega)).trans ea3
      replace ea4 := (hgq.cell (p := ⟨_, _, none⟩) (by (try dsimp only) <;> omega)).trans ea4
      replace ea5 := (hgq.cell (p := ⟨_, _, none⟩) (by (try dsimp only) <;> omega)).trans ea5
      replace ea6 := (hgq.cell (p := ⟨_, _, none⟩) (by (try dsimp only) <;> omega)).trans ea6
      replace ea7 := (hgq.cell (p := ⟨_, _, none⟩) (by (try dsimp only) <;> omega)).trans ea7
      replace ea8 := (hgq.cell (p := ⟨_, _, none⟩) (by (try dsimp only) <;> omega)).trans ea8
      have zd3 := hgq.size
      replace hT := hT.trans (hgq.mono (by omega))
      clear hgq
      try clear vals
      obtain ⟨d3, rfl⟩ : ∃ d3, d3 = wq := ⟨_, rfl⟩
      go_wp2_with fail
      go_ret
      exact ⟨by first | rfl | exact ret_bool rfl, hT⟩
    · have F1 := Lib.hid hta
      have F2 := Lib.hid htb
      have G1 := Lib.hid (show topH v (Nn e) = true by rw [O1.topNot (by omega)]; simp only [O1.topNot (v := v) (by omega), P1.topNot (v := v) (by omega), O1.topAnd (v := v) P1 (by omega), O1.topOr (v := v) P1 (by omega), hta, htb]; rfl)
      have G2 := Lib.hid (show topH v (Nn (Nn e)) = false by rw [O1.not.topNot (by omega)]; simp only [O1.topNot (v := v) (by omega), P1.topNot (v := v) (by omega), O1.topAnd (v := v) P1 (by omega), O1.topOr (v := v) P1 (by omega), hta, htb]; rfl)
      have G3 := Lib.hid (show topH v (Tw 5 e f) = false by rw [O1.topAnd P1 (by omega)]; simp only [O1.topNot (v := v) (by omega), P1.topNot (v := v) (by omega), O1.topAnd (v := v) P1 (by omega), O1.topOr (v := v) P1 (by omega), hta, htb]; rfl)
      have G4 := Lib.hid (show topH v (Tw 6 e f) = true by rw [O1.topOr P1 (by omega)]; simp only [O1.topNot (v := v) (by omega), P1.topNot (v := v) (by omega), O1.topAnd (v := v) P1 (by omega), O1.topOr (v := v) P1 (by omega), hta, htb]; rfl)
      have G5 := Lib.hid (show topH v (Nn (Tw 5 e f)) = true by rw [(O1.and P1).topNot (by omega)]; simp only [O1.topNot (v := v) (by omega), P1.topNot (v := v) (by omega), O1.topAnd (v := v) P1 (by omega), O1.topOr (v := v) P1 (by omega), hta, htb]; rfl)
      have G6 := Lib.hid (show topH v (Tw 6 (Nn e) (Nn f)) = true by rw [O1.not.topOr P1.not (by omega)]; simp only [O1.topNot (v := v) (by omega), P1.topNot (v := v) (by omega), O1.topAnd (v := v) P1 (by omega), O1.topOr (v := v) P1 (by omega), hta, htb]; rfl)
      have G7 := Lib.hid (show topH v (Nn (Tw 6 e f)) = false by rw [(O1.or P1).topNot (by omega)]; simp only [O1.topNot (v := v) (by omega), P1.topNot (v := v) (by omega), O1.topAnd (v := v) P1 (by omega), O1.topOr (v := v) P1 (by omega), hta, htb]; rfl)
      have G8 := Lib.hid (show topH v (Tw 5 (Nn e) (Nn f)) = false by rw [O1.not.topAnd P1.not (by omega)]; simp only [O1.topNot (v := v) (by omega), P1.topNot (v := v) (by omega), O1.topAnd (v := v) P1 (by omega), O1.topOr (v := v) P1 (by omega), hta, htb]; rfl)
      clear hta htb O1 P1
      go_wp2_with fail
      have hp0 : w.heap.size < c10.heap.size := by omega
      have hp1 : w.heap.size + 1 < c10.heap.size := by omega
      have hp2 : w.heap.size + 1 + 1 < c10.heap.size := by omega
      ((with_reducible refine region_trees ([]) ?_ ?_ ?_ ?_ ?_); kernel_rfl; kernel_rfl; rfl; rfl; intro hnonemp hcr; (repeat (first | (refine mix_plain rfl rfl rfl ?_; (first | go_big_quiet_skip | (go_big_quiet_want; go_big_quiet_op; go_big_quiet_on)); refine wpQuiet_nil ?_) | (refine call_skip rfl rfl (by simp only [Act.put, List.setIfInBounds_toArray, List.set_cons_succ, List.set_cons_zero]; rfl) ?_) | (refine call_at 55 rfl ?_; (refine call_one (.bool false) Try.func16 (by kernel_rfl) rfl rfl rfl rfl (by simp only [Act.put, List.setIfInBounds_toArray, List.set_cons_succ, List.set_cons_zero]; rfl) (fun z vals hv => ?_) ?_; (have hc := Holds_top v _ x z.w (HX.out.on z.h); rw [F1.out] at hc; exact ⟨_, (by first | (simp [ev, Act.eval, Env.val] <;> rfl) | (simp [ev, Act.eval, It.val, Env.val]; done)), hc⟩))) | (refine call_at 58 rfl ?_; (refine call_one (.bool true) Try.func16 (by kernel_rfl) rfl rfl rfl rfl (by simp only [Act.put, List.setIfInBounds_toArray, List.set_cons_succ, List.set_cons_zero]; rfl) (fun z vals hv => ?_) ?_; (have hc := Holds_top v _ y z.w (HY.out.on z.h); rw [F2.out] at hc; exact ⟨_, (by first | (simp [ev, Act.eval, Env.val] <;> rfl) | (simp [ev, Act.eval, It.val, Env.val]; done)), hc⟩))))); intro wq vals hgq; simp only [over, Nt, List.map_cons, List.map_nil, List.foldl_cons, List.foldl_nil, Act.put, List.setIfInBounds_toArray, List.set_cons_succ, List.set_cons_zero]; clear hcr)
      clear hp0 hp1 hp2
      replace HX := Lib.hid (HX.out.on hgq)
      replace HY := Lib.hid (HY.out.on hgq)
      replace xa0 := (hgq.cell (p := ⟨_, _, none⟩) (by (try dsimp only) <;> omega)).trans xa0
      replace xa1 := (hgq.cell (p := ⟨_, _, none⟩) (by (try dsimp only) <;> omega)).trans xa1
      replace xa2 := (hgq.cell (p := ⟨_, _, none⟩) (by (try dsimp only) <;> omega)).trans xa2
      replace xa3 := (hgq.cell (p := ⟨_, _, none⟩) (by (try dsimp only) <;> omega)).trans xa3
      replace ya0 := (hgq.cell (p := ⟨_, _, none⟩) (by (try dsimp only) <;> omega)).trans ya0
      replace ya1 := (hgq.cell (p := ⟨_, _, none⟩) (by (try dsimp only) <;> omega)).trans ya1
      replace ya2 := (hgq.cell (p := ⟨_, _, none⟩) (by (try dsimp only) <;> omega)).trans ya2
      replace ya3 := (hgq.cell (p := ⟨_, _, none⟩) (by (try dsimp only) <;> omega)).trans ya3
      replace ea0 := (hgq.cell (p := ⟨_, _, none⟩) (by (try dsimp only) <;> omega)).trans ea0
      replace ea1 := (hgq.cell (p := ⟨_, _, none⟩) (by (try dsimp only) <;> omega)).trans ea1
      replace ea2 := (hgq.cell (p := ⟨_, _, none⟩) (by (try dsimp only) <;> omega)).trans ea2
      replace ea3 := (hgq.cell (p := ⟨_, _, none⟩) (by (try dsimp only) <;> omega)).trans ea3
      replace ea4 := (hgq.cell (p := ⟨_, _, none⟩) (by (try dsimp only) <;> omega)).trans ea4
      replace ea5 := (hgq.cell (p := ⟨_, _, none⟩) (by (try dsimp only) <;> omega)).trans ea5
      replace ea6 := (hgq.cell (p := ⟨_, _, none⟩) (by (try dsimp only) <;> omega)).trans ea6
      replace ea7 := (hgq.cell (p := ⟨_, _, none⟩) (by (try dsimp only) <;> omega)).trans ea7
      replace ea8 := (hgq.cell (p := ⟨_, _, none⟩) (by (try dsimp only) <;> omega)).trans ea8
      have zd1 := hgq.size
      replace hT := hT.trans (hgq.mono (by omega))
      clear hgq
      try clear vals
      obtain ⟨d1, rfl⟩ : ∃ d1, d1 = wq := ⟨_, rfl⟩
      go_wp2_with fail
      have hp0 : w.heap.size < d1.heap.size := by omega
      have hp1 : w.heap.size + 1 < d1.heap.size := by omega
      have hp2 : w.heap.size + 1 + 1 < d1.heap.size := by omega
      ((with_reducible refine region_trees ([(60, (Nn e)), (67, (Nn e)), (68, (Nn (Nn e))), (77, (Tw 5 e f)), (89, (Tw 6 e f))]) ?_ ?_ ?_ ?_ ?_); kernel_rfl; kernel_rfl; rfl; rfl; intro hnonemp hcr; (repeat (first | (refine mix_plain rfl rfl rfl ?_; (first | go_big_quiet_skip | (go_big_quiet_want; go_big_quiet_op; go_big_quiet_on)); refine wpQuiet_nil ?_) | (refine call_skip rfl rfl (by simp only [Act.put, List.setIfInBounds_toArray, List.set_cons_succ, List.set_cons_zero]; rfl) ?_) | (refine call_tree 60 ((Nn e)) rfl Try.func21 (by kernel_rfl) rfl rfl rfl rfl (by simp only [Act.put, List.setIfInBounds_toArray, List.set_cons_succ, List.set_cons_zero]; rfl) (fun z vals hv => ?_) ?_; (exact ⟨_, (by first | (simp [ev, Act.eval] <;> rfl) | (simp [ev, Act.eval, It.val]; done)), not_any e x z.w (HX.out.on z.h)⟩)) | (refine call_tree 67 ((Nn e)) rfl Try.func21 (by kernel_rfl) rfl rfl rfl rfl (by simp only [Act.put, List.setIfInBounds_toArray, List.set_cons_succ, List.set_cons_zero]; rfl) (fun z vals hv => ?_) ?_; (exact ⟨_, (by first | (simp [ev, Act.eval] <;> rfl) | (simp [ev, Act.eval, It.val]; done)), not_any e x z.w (HX.out.on z.h)⟩)) | (refine call_tree 68 ((Nn (Nn e))) rfl Try.func21 (by kernel_rfl) rfl rfl rfl rfl (by simp only [Act.put, List.setIfInBounds_toArray, List.set_cons_succ, List.set_cons_zero]; rfl) (fun z vals hv => ?_) ?_; (obtain ⟨y1, e1, r1⟩ := hv 67 _ rfl (by simp); exact ⟨_, (by first | (simp [ev, Act.eval, e1] <;> rfl) | (simp [ev, Act.eval, It.val, e1]; done)), not_any (Nn e) y1 z.w r1⟩)) | (refine call_tree 77 ((Tw 5 e f)) rfl Try.func19 (by kernel_rfl) rfl rfl rfl rfl (by simp only [Act.put, List.setIfInBounds_toArray, List.set_cons_succ, List.set_cons_zero]; rfl) (fun z vals hv => ?_) ?_; (exact ⟨_, (by first | (simp [ev, Act.eval] <;> rfl) | (simp [ev, Act.eval, It.val]; done)), two_any 5 e f x y z.w (HX.out.on z.h) (HY.out.on z.h)⟩)) | (refine call_tree 89 ((Tw 6 e f)) rfl Try.func19 (by kernel_rfl) rfl rfl rfl rfl (by simp only [Act.put, List.setIfInBounds_toArray, List.set_cons_succ, List.set_cons_zero]; rfl) (fun z vals hv => ?_) ?_; (exact ⟨_, (by first | (simp [ev, Act.eval] <;> rfl) | (simp [ev, Act.eval, It.val]; done)), two_any 6 e f x y z.w (HX.out.on z.h) (HY.out.on z.h)⟩)) | (refine call_at 62 rfl ?_; (refine call_one (.bool true) Try.func16 (by kernel_rfl) rfl rfl rfl rfl (by simp only [Act.put, List.setIfInBounds_toArray, List.set_cons_succ, List.set_cons_zero]; rfl) (fun z vals hv => ?_) ?_; (obtain ⟨y1, e1, r1⟩ := hv 60 _ rfl (by simp); have hc := Holds_top v _ y1 z.w r1; rw [G1.out] at hc; exact ⟨_, (by first | (simp [ev, Act.eval, e1, Env.val] <;> rfl) | (simp [ev, Act.eval, It.val, e1, Env.val]; done)), hc⟩))) | (refine call_at 70 rfl ?_; (refine call_one (.bool false) Try.func16 (by kernel_rfl) rfl rfl rfl rfl (by simp only [Act.put, List.setIfInBounds_toArray, List.set_cons_succ, List.set_cons_zero]; rfl) (fun z vals hv => ?_) ?_; (obtain ⟨y1, e1, r1⟩ := hv 68 _ rfl (by simp); have hc := Holds_top v _ y1 z.w r1; rw [G2.out] at hc; exact ⟨_, (by first | (simp [ev, Act.eval, e1, Env.val] <;> rfl) | (simp [ev, Act.eval, It.val, e1, Env.val]; done)), hc⟩))) | (refine call_at 79 rfl ?_; (refine call_one (.bool false) Try.func16 (by kernel_rfl) rfl rfl rfl rfl (by simp only [Act.put, List.setIfInBounds_toArray, List.set_cons_succ, List.set_cons_zero]; rfl) (fun z vals hv => ?_) ?_; (obtain ⟨y1, e1, r1⟩ := hv 77 _ rfl (by simp); have hc := Holds_top v _ y1 z.w r1; rw [G3.out] at hc; exact ⟨_, (by first | (simp [ev, Act.eval, e1, Env.val] <;> rfl) | (simp [ev, Act.eval, It.val, e1, Env.val]; done)), hc⟩))) | (refine call_at 91 rfl ?_; (refine call_one (.bool true) Try.func16 (by kernel_rfl) rfl rfl rfl rfl (by simp only [Act.put, List.setIfInBounds_toArray, List.set_cons_succ, List.set_cons_zero]; rfl) (fun z vals hv => ?_) ?_; (obtain ⟨y1, e1, r1⟩ := hv 89 _ rfl (by simp); have hc := Holds_top v _ y1 z.w r1; rw [G4.out] at hc; exact ⟨_, (by first | (simp [ev, Act.eval, e1, Env.val] <;> rfl) | (simp [ev, Act.eval, It.val, e1, Env.val]; done)), hc⟩))))); intro wq vals hgq; simp only [over, Nt, List.map_cons, List.map_nil, List.foldl_cons, List.foldl_nil, Act.put, List.setIfInBounds_toArray, List.set_cons_succ, List.set_cons_zero]; clear hcr)
      clear hp0 hp1 hp2
      replace HX := Lib.hid (HX.out.on hgq)
      replace HY := Lib.hid (HY.out.on hgq)
      replace xa0 := (hgq.cell (p := ⟨_, _, none⟩) (by (try dsimp only) <;> omega)).trans xa0
      replace xa1 := (hgq.cell (p := ⟨_, _, none⟩) (by (try dsimp only) <;> omega)).trans xa1
      replace xa2 := (hgq.cell (p := ⟨_, _, none⟩) (by (try dsimp only) <;> omega)).trans xa2
      replace xa3 := (hgq.cell (p := ⟨_, _, none⟩) (by (try dsimp only) <;> omega)).trans xa3
      replace ya0 := (hgq.cell (p := ⟨_, _, none⟩) (by (try dsimp only) <;> omega)).trans ya0
      replace ya1 := (hgq.cell (p := ⟨_, _, none⟩) (by (try dsimp only) <;> omega)).trans ya1
      replace ya2 := (hgq.cell (p := ⟨_, _, none⟩) (by (try dsimp only) <;> omega)).trans ya2
      replace ya3 := (hgq.cell (p := ⟨_, _, none⟩) (by (try dsimp only) <;> omega)).trans ya3
      replace ea0 := (hgq.cell (p := ⟨_, _, none⟩) (by (try dsimp only) <;> omega)).trans ea0
      replace ea1 := (hgq.cell (p := ⟨_, _, none⟩) (by (try dsimp only) <;> omega)).trans ea1
      replace ea2 := (hgq.cell (p := ⟨_, _, none⟩) (by (try dsimp only) <;> omega)).trans ea2
      replace ea3 := (hgq.cell (p := ⟨_, _, none⟩) (by (try dsimp only) <;> omega)).trans ea3
      replace ea4 := (hgq.cell (p := ⟨_, _, none⟩) (by (try dsimp only) <;> omega)).trans ea4
      replace ea5 := (hgq.cell (p := ⟨_, _, none⟩) (by (try dsimp only) <;> omega)).trans ea5
      replace ea6 := (hgq.cell (p := ⟨_, _, none⟩) (by (try dsimp only) <;> omega)).trans ea6
      replace ea7 := (hgq.cell (p := ⟨_, _, none⟩) (by (try dsimp only) <;> omega)).trans ea7
      replace ea8 := (hgq.cell (p := ⟨_, _, none⟩) (by (try dsimp only) <;> omega)).trans ea8
      have zd2 := hgq.size
      replace hT := hT.trans (hgq.mono (by omega))
      clear hgq
      try clear vals
      obtain ⟨d2, rfl⟩ : ∃ d2, d2 = wq := ⟨_, rfl⟩
      go_wp2_with fail
      have hp0 : w.heap.size < d2.heap.size := by omega
      have hp1 : w.heap.size + 1 < d2.heap.size := by omega
      have hp2 : w.heap.size + 1 + 1 < d2.heap.size := by omega
      ((with_reducible refine region_trees ([(100, (Tw 5 e f)), (101, (Nn (Tw 5 e f))), (105, (Nn e)), (107, (Nn f)), (108, (Tw 6 (Nn e) (Nn f))), (115, (Tw 6 e f)), (116, (Nn (Tw 6 e f))), (120, (Nn e)), (122, (Nn f)), (123, (Tw 5 (Nn e) (Nn f)))]) ?_ ?_ ?_ ?_ ?_); kernel_rfl; kernel_rfl; rfl; rfl; intro hnonemp hcr; (repeat (first | (refine mix_plain rfl rfl rfl ?_; (first | go_big_quiet_skip | (go_big_quiet_want; go_big_quiet_op; go_big_quiet_on)); refine wpQuiet_nil ?_) | (refine call_skip rfl rfl (by simp only [Act.put, List.setIfInBounds_toArray, List.set_cons_succ, List.set_cons_zero]; rfl) ?_) | (refine call_tree 100 ((Tw 5 e f)) rfl Try.func19 (by kernel_rfl) rfl rfl rfl rfl (by simp only [Act.put, List.setIfInBounds_toArray, List.set_cons_succ, List.set_cons_zero]; rfl) (fun z vals hv => ?_) ?_; (exact ⟨_, (by first | (simp [ev, Act.eval] <;> rfl) | (simp [ev, Act.eval, It.val]; done)), two_any 5 e f x y z.w (HX.out.on z.h) (HY.out.on z.h)⟩)) | (refine call_tree 101 ((Nn (Tw 5 e f))) rfl Try.func21 (by kernel_rfl) rfl rfl rfl rfl (by simp only [Act.put, List.setIfInBounds_toArray, List.set_cons_succ, List.set_cons_zero]; rfl) (fun z vals hv => ?_) ?_; (obtain ⟨y1, e1, r1⟩ := hv 100 _ rfl (by simp); exact ⟨_, (by first | (simp [ev, Act.eval, e1] <;> rfl) | (simp [ev, Act.eval, It.val, e1]; done)), not_any (Tw 5 e f) y1 z.w r1⟩)) | (refine call_tree 105 ((Nn e)) rfl Try.func21 (by kernel_rfl) rfl rfl rfl rfl (by simp only [Act.put, List.setIfInBounds_toArray, List.set_cons_succ, List.set_cons_zero]; rfl) (fun z vals hv => ?_) ?_; (exact ⟨_, (by first | (simp [ev, Act.eval] <;> rfl) | (simp [ev, Act.eval, It.val]; done)), not_any e x z.w (HX.out.on z.h)⟩)) | (refine call_tree 107 ((Nn f)) rfl Try.func21 (by kernel_rfl) rfl rfl rfl rfl (by simp only [Act.put, List.setIfInBounds_toArray, List.set_cons_succ, List.set_cons_zero]; rfl) (fun z vals hv => ?_) ?_; (exact ⟨_, (by first | (simp [ev, Act.eval] <;> rfl) | (simp [ev, Act.eval, It.val]; done)), not_any f y z.w (HY.out.on z.h)⟩)) | (refine call_tree 108 ((Tw 6 (Nn e) (Nn f))) rfl Try.func19 (by kernel_rfl) rfl rfl rfl rfl (by simp only [Act.put, List.setIfInBounds_toArray, List.set_cons_succ, List.set_cons_zero]; rfl) (fun z vals hv => ?_) ?_; (obtain ⟨y1, e1, r1⟩ := hv 105 _ rfl (by simp); obtain ⟨y2, e2, r2⟩ := hv 107 _ rfl (by simp); exact ⟨_, (by first | (simp [ev, Act.eval, e1, e2] <;> rfl) | (simp [ev, Act.eval, It.val, e1, e2]; done)), two_any 6 (Nn e) (Nn f) y1 y2 z.w r1 r2⟩)) | (refine call_tree 115 ((Tw 6 e f)) rfl Try.func19 (by kernel_rfl) rfl rfl rfl rfl (by simp only [Act.put, List.setIfInBounds_toArray, List.set_cons_succ, List.set_cons_zero]; rfl) (fun z vals hv => ?_) ?_; (exact ⟨_, (by first | (simp [ev, Act.eval] <;> rfl) | (simp [ev, Act.eval, It.val]; done)), two_any 6 e f x y z.w (HX.out.on z.h) (HY.out.on z.h)⟩)) | (refine call_tree 116 ((Nn (Tw 6 e f))) rfl Try.func21 (by kernel_rfl) rfl rfl rfl rfl (by simp only [Act.put, List.setIfInBounds_toArray, List.set_cons_succ, List.set_cons_zero]; rfl) (fun z vals hv => ?_) ?_; (obtain ⟨y1, e1, r1⟩ := hv 115 _ rfl (by simp); exact ⟨_, (by first | (simp [ev, Act.eval, e1] <;> rfl) | (simp [ev, Act.eval, It.val, e1]; done)), not_any (Tw 6 e f) y1 z.w r1⟩)) | (refine call_tree 120 ((Nn e)) rfl Try.func21 (by kernel_rfl) rfl rfl rfl rfl (by simp only [Act.put, List.setIfInBounds_toArray, List.set_cons_succ, List.set_cons_zero]; rfl) (fun z vals hv => ?_) ?_; (exact ⟨_, (by first | (simp [ev, Act.eval] <;> rfl) | (simp [ev, Act.eval, It.val]; done)), not_any e x z.w (HX.out.on z.h)⟩)) | (refine call_tree 122 ((Nn f)) rfl Try.func21 (by kernel_rfl) rfl rfl rfl rfl (by simp only [Act.put, List.setIfInBounds_toArray, List.set_cons_succ, List.set_cons_zero]; rfl) (fun z vals hv => ?_) ?_; (exact ⟨_, (by first | (simp [ev, Act.eval] <;> rfl) | (simp [ev, Act.eval, It.val]; done)), not_any f y z.w (HY.out.on z.h)⟩)) | (refine call_tree 123 ((Tw 5 (Nn e) (Nn f))) rfl Try.func19 (by kernel_rfl) rfl rfl rfl rfl (by simp only [Act.put, List.setIfInBounds_toArray, List.set_cons_succ, List.set_cons_zero]; rfl) (fun z vals hv => ?_) ?_; (obtain ⟨y1, e1, r1⟩ := hv 120 _ rfl (by simp); obtain ⟨y2, e2, r2⟩ := hv 122 _ rfl (by simp); exact ⟨_, (by first | (simp [ev, Act.eval, e1, e2] <;> rfl) | (simp [ev, Act.eval, It.val, e1, e2]; done)), two_any 5 (Nn e) (Nn f) y1 y2 z.w r1 r2⟩)) | (refine call_at 103 rfl ?_; (refine call_one (.bool true) Try.func16 (by kernel_rfl) rfl rfl rfl rfl (by simp only [Act.put, List.setIfInBounds_toArray, List.set_cons_succ, List.set_cons_zero]; rfl) (fun z vals hv => ?_) ?_; (obtain ⟨y1, e1, r1⟩ := hv 101 _ rfl (by simp); have hc := Holds_top v _ y1 z.w r1; rw [G5.out] at hc; exact ⟨_, (by first | (simp [ev, Act.eval, e1, Env.val] <;> rfl) | (simp [ev, Act.eval, It.val, e1, Env.val]; done)), hc⟩))) | (refine call_at 110 rfl ?_; (refine call_one (.bool true) Try.func16 (by kernel_rfl) rfl rfl rfl rfl (by simp only [Act.put, List.setIfInBounds_toArray, List.set_cons_succ, List.set_cons_zero]; rfl) (fun z vals hv => ?_) ?_; (obtain ⟨y1, e1, r1⟩ := hv 108 _ rfl (by simp); have hc := Holds_top v _ y1 z.w r1; rw [G6.out] at hc; exact ⟨_, (by first | (simp [ev, Act.eval, e1, Env.val] <;> rfl) | (simp [ev, Act.eval, It.val, e1, Env.val]; done)), hc⟩))) | (refine call_at 118 rfl ?_; (refine call_one (.bool false) Try.func16 (by kernel_rfl) rfl rfl rfl rfl (by simp only [Act.put, List.setIfInBounds_toArray, List.set_cons_succ, List.set_cons_zero]; rfl) (fun z vals hv => ?_) ?_; (obtain ⟨y1, e1, r1⟩ := hv 116 _ rfl (by simp); have hc := Holds_top v _ y1 z.w r1; rw [G7.out] at hc; exact ⟨_, (by first | (simp [ev, Act.eval, e1, Env.val] <;> rfl) | (simp [ev, Act.eval, It.val, e1, Env.val]; done)), hc⟩))) | (refine call_at 125 rfl ?_; (refine call_one (.bool false) Try.func16 (by kernel_rfl) rfl rfl rfl rfl (by simp only [Act.put, List.setIfInBounds_toArray, List.set_cons_succ, List.set_cons_zero]; rfl) (fun z vals hv => ?_) ?_; (obtain ⟨y1, e1, r1⟩ := hv 123 _ rfl (by simp); have hc := Holds_top v _ y1 z.w r1; rw [G8.out] at hc; exact ⟨_, (by first | (simp [ev, Act.eval, e1, Env.val] <;> rfl) | (simp [ev, Act.eval, It.val, e1, Env.val]; done)), hc⟩))) | (refine call_at 129 rfl ?_; (refine call_one (.bool true) Try.func11 (by kernel_rfl) rfl rfl rfl rfl (by simp only [Act.put, List.setIfInBounds_toArray, List.set_cons_succ, List.set_cons_zero]; rfl) (fun z vals hv => ?_) ?_; (exact ⟨_, (by first | (simp [ev, Act.eval] <;> rfl) | (simp [ev, Act.eval, It.val]; done)), awake_any z.w⟩))))); intro wq vals hgq; simp only [over, Nt, List.map_cons, List.map_nil, List.foldl_cons, List.foldl_nil, Act.put, List.setIfInBounds_toArray, List.set_cons_succ, List.set_cons_zero]; clear hcr)
      clear hp0 hp1 hp2
      replace HX := Lib.hid (HX.out.on hgq)
      replace HY := Lib.hid (HY.out.on hgq)
      replace xa0 := (hgq.cell (p := ⟨_, _, none⟩) (by (try dsimp only) <;> omega)).trans xa0
      replace xa1 := (hgq.cell (p := ⟨_, _, none⟩) (by (try dsimp only) <;> omega)).trans xa1
      replace xa2 := (hgq.cell (p := ⟨_, _, none⟩) (by (try dsimp only) <;> omega)).trans xa2
      replace xa3 := (hgq.cell (p := ⟨_, _, none⟩) (by (try dsimp only) <;> omega)).trans xa3
      replace ya0 := (hgq.cell (p := ⟨_, _, none⟩) (by (try dsimp only) <;> omega)).trans ya0
      replace ya1 := (hgq.cell (p := ⟨_, _, none⟩) (by (try dsimp only) <;> omega)).trans ya1
      replace ya2 := (hgq.cell (p := ⟨_, _, none⟩) (by (try dsimp only) <;> omega)).trans ya2
      replace ya3 := (hgq.cell (p := ⟨_, _, none⟩) (by (try dsimp only) <;> omega)).trans ya3
      replace ea0 := (hgq.cell (p := ⟨_, _, none⟩) (by (try dsimp only) <;> omega)).trans ea0
      replace ea1 := (hgq.cell (p := ⟨_, _, none⟩) (by (try dsimp only) <;> omega)).trans ea1
      replace ea2 := (hgq.cell (p := ⟨_, _, none⟩) (by (try dsimp only) <;> omega)).trans ea2
      replace ea3 := (hgq.cell (p := ⟨_, _, none⟩) (by (try dsimp only) <;> omega)).trans ea3
      replace ea4 := (hgq.cell (p := ⟨_, _, none⟩) (by (try dsimp only) <;> omega)).trans ea4
      replace ea5 := (hgq.cell (p := ⟨_, _, none⟩) (by (try dsimp only) <;> omega)).trans ea5
      replace ea6 := (hgq.cell (p := ⟨_, _, none⟩) (by (try dsimp only) <;> omega)).trans ea6
      replace ea7 := (hgq.cell (p := ⟨_, _, none⟩) (by (try dsimp only) <;> omega)).trans ea7
      replace ea8 := (hgq.cell (p := ⟨_, _, none⟩) (by (try dsimp only) <;> omega)).trans ea8
      have zd3 := hgq.size
      replace hT := hT.trans (hgq.mono (by omega))
      clear hgq
      try clear vals
      obtain ⟨d3, rfl⟩ : ∃ d3, d3 = wq := ⟨_, rfl⟩
      go_wp2_with fail
      go_ret
      exact ⟨by first | rfl | exact ret_bool rfl, hT⟩
    · have F1 := Lib.hid hta
      have F2 := Lib.hid htb
      have G1 := Lib.hid (show topH v (Nn e) = false by rw [O1.topNot (by omega)]; simp only [O1.topNot (v := v) (by omega), P1.topNot (v := v) (by omega), O1.topAnd (v := v) P1 (by omega), O1.topOr (v := v) P1 (by omega), hta, htb]; rfl)
      have G2 := Lib.hid (show topH v (Nn (Nn e)) = true by rw [O1.not.topNot (by omega)]; simp only [O1.topNot (v := v) (by omega), P1.topNot (v := v) (by omega), O1.topAnd (v := v) P1 (by omega), O1.topOr (v := v) P1 (by omega), hta, htb]; rfl)
      have G3 := Lib.hid (show topH v (Tw 5 e f) = false by rw [O1.topAnd P1 (by omega)]; simp only [O1.topNot (v := v) (by omega), P1.topNot (v := v) (by omega), O1.topAnd (v := v) P1 (by omega), O1.topOr (v := v) P1 (by omega), hta, htb]; rfl)
      have G4 := Lib.hid (show topH v (Tw 6 e f) = true by rw [O1.topOr P1 (by omega)]; simp only [O1.topNot (v := v) (by omega), P1.topNot (v := v) (by omega), O1.topAnd (v := v) P1 (by omega), O1.topOr (v := v) P1 (by omega), hta, htb]; rfl)
      have G5 := Lib.hid (show topH v (Nn (Tw 5 e f)) = true by rw [(O1.and P1).topNot (by omega)]; simp only [O1.topNot (v := v) (by omega), P1.topNot (v := v) (by omega), O1.topAnd (v := v) P1 (by omega), O1.topOr (v := v) P1 (by omega), hta, htb]; rfl)
      have G6 := Lib.hid (show topH v (Tw 6 (Nn e) (Nn f)) = true by rw [O1.not.topOr P1.not (by omega)]; simp only [O1.topNot (v := v) (by omega), P1.topNot (v := v) (by omega), O1.topAnd (v := v) P1 (by omega), O1.topOr (v := v) P1 (by omega), hta, htb]; rfl)
      have G7 := Lib.hid (show topH v (Nn (Tw 6 e f)) = false by rw [(O1.or P1).topNot (by omega)]; simp only [O1.topNot (v := v) (by omega), P1.topNot (v := v) (by omega), O1.topAnd (v := v) P1 (by omega), O1.topOr (v := v) P1 (by omega), hta, htb]; rfl)
      have G8 := Lib.hid (show topH v (Tw 5 (Nn e) (Nn f)) = false by rw [O1.not.topAnd P1.not (by omega)]; simp only [O1.topNot (v := v) (by omega), P1.topNot (v := v) (by omega), O1.topAnd (v := v) P1 (by omega), O1.topOr (v := v) P1 (by omega), hta, htb]; rfl)
      clear hta htb O1 P1
      go_wp2_with fail
      have hp0 : w.heap.size < c10.heap.size := by omega
      have hp1 : w.heap.size + 1 < c10.heap.size := by omega
      have hp2 : w.heap.size + 1 + 1 < c10.heap.size := by omega
      ((with_reducible refine region_trees ([]) ?_ ?_ ?_ ?_ ?_); kernel_rfl; kernel_rfl; rfl; rfl; intro hnonemp hcr; (repeat (first | (refine mix_plain rfl rfl rfl ?_; (first | go_big_quiet_skip | (go_big_quiet_want; go_big_quiet_op; go_big_quiet_on)); refine wpQuiet_nil ?_) | (refine call_skip rfl rfl (by simp only [Act.put, List.setIfInBounds_toArray, List.set_cons_succ, List.set_cons_zero]; rfl) ?_) | (refine call_at 55 rfl ?_; (refine call_one (.bool true) Try.func16 (by kernel_rfl) rfl rfl rfl rfl (by simp only [Act.put, List.setIfInBounds_toArray, List.set_cons_succ, List.set_cons_zero]; rfl) (fun z vals hv => ?_) ?_; (have hc := Holds_top v _ x z.w (HX.out.on z.h); rw [F1.out] at hc; exact ⟨_, (by first | (simp [ev, Act.eval, Env.val] <;> rfl) | (simp [ev, Act.eval, It.val, Env.val]; done)), hc⟩))) | (refine call_at 58 rfl ?_; (refine call_one (.bool false) Try.func16 (by kernel_rfl) rfl rfl rfl rfl (by simp only [Act.put, List.setIfInBounds_toArray, List.set_cons_succ, List.set_cons_zero]; rfl) (fun z vals hv => ?_) ?_; (have hc := Holds_top v _ y z.w (HY.out.on z.h); rw [F2.out] at hc; exact ⟨_, (by first | (simp [ev, Act.eval, Env.val] <;> rfl) | (simp [ev, Act.eval, It.val, Env.val]; done)), hc⟩))))); intro wq vals hgq; simp only [over, Nt, List.map_cons, List.map_nil, List.foldl_cons, List.foldl_nil, Act.put, List.setIfInBounds_toArray, List.set_cons_succ, List.set_cons_zero]; clear hcr)
      clear hp0 hp1 hp2
      replace HX := Lib.hid (HX.out.on hgq)
      replace HY := Lib.hid (HY.out.on hgq)
      replace xa0 := (hgq.cell (p := ⟨_, _, none⟩) (by (try dsimp only) <;> omega)).trans xa0
      replace xa1 := (hgq.cell (p := ⟨_, _, none⟩) (by (try dsimp only) <;> omega)).trans xa1
      replace xa2 := (hgq.cell (p := ⟨_, _, none⟩) (by (try dsimp only) <;> omega)).trans xa2
      replace xa3 := (hgq.cell (p := ⟨_, _, none⟩) (by (try dsimp only) <;> omega)).trans xa3
      replace ya0 := (hgq.cell (p := ⟨_, _, none⟩) (by (try dsimp only) <;> omega)).trans ya0
      replace ya1 := (hgq.cell (p := ⟨_, _, none⟩) (by (try dsimp only) <;> omega)).trans ya1
      replace ya2 := (hgq.cell (p := ⟨_, _, none⟩) (by (try dsimp only) <;> omega)).trans ya2
      replace ya3 := (hgq.cell (p := ⟨_, _, none⟩) (by (try dsimp only) <;> omega)).trans ya3
      replace ea0 := (hgq.cell (p := ⟨_, _, none⟩) (by (try dsimp only) <;> omega)).trans ea0
      replace ea1 := (hgq.cell (p := ⟨_, _, none⟩) (by (try dsimp only) <;> omega)).trans ea1
      replace ea2 := (hgq.cell (p := ⟨_, _, none⟩) (by (try dsimp only) <;> omega)).trans ea2
      replace ea3 := (hgq.cell (p := ⟨_, _, none⟩) (by (try dsimp only) <;> omega)).trans ea3
      replace ea4 := (hgq.cell (p := ⟨_, _, none⟩) (by (try dsimp only) <;> omega)).trans ea4
      replace ea5 := (hgq.cell (p := ⟨_, _, none⟩) (by (try dsimp only) <;> omega)).trans ea5
      replace ea6 := (hgq.cell (p := ⟨_, _, none⟩) (by (try dsimp only) <;> omega)).trans ea6
      replace ea7 := (hgq.cell (p := ⟨_, _, none⟩) (by (try dsimp only) <;> omega)).trans ea7
      replace ea8 := (hgq.cell (p := ⟨_, _, none⟩) (by (try dsimp only) <;> omega)).trans ea8
      have zd1 := hgq.size
      replace hT := hT.trans (hgq.mono (by omega))
      clear hgq
      try clear vals
      obtain ⟨d1, rfl⟩ : ∃ d1, d1 = wq := ⟨_, rfl⟩
      go_wp2_with fail
      have hp0 : w.heap.size < d1.heap.size := by omega
      have hp1 : w.heap.size + 1 < d1.heap.size := by omega
      have hp2 : w.heap.size + 1 + 1 < d1.heap.size := by omega
      ((with_reducible refine region_trees ([(60, (Nn e)), (67, (Nn e)), (68, (Nn (Nn e))), (77, (Tw 5 e f)), (89, (Tw 6 e f))]) ?_ ?_ ?_ ?_ ?_); kernel_rfl; kernel_rfl; rfl; rfl; intro hnonemp hcr; (repeat (first | (refine mix_plain rfl rfl rfl ?_; (first | go_big_quiet_skip | (go_big_quiet_want; go_big_quiet_op; go_big_quiet_on)); refine wpQuiet_nil ?_) | (refine call_skip rfl rfl (by simp only [Act.put, List.setIfInBounds_toArray, List.set_cons_succ, List.set_cons_zero]; rfl) ?_) | (refine call_tree 60 ((Nn e)) rfl Try.func21 (by kernel_rfl) rfl rfl rfl rfl (by simp only [Act.put, List.setIfInBounds_toArray, List.set_cons_succ, List.set_cons_zero]; rfl) (fun z vals hv => ?_) ?_; (exact ⟨_, (by first | (simp [ev, Act.eval] <;> rfl) | (simp [ev, Act.eval, It.val]; done)), not_any e x z.w (HX.out.on z.h)⟩)) | (refine call_tree 67 ((Nn e)) rfl Try.func21 (by kernel_rfl) rfl rfl rfl rfl (by simp only [Act.put, List.setIfInBounds_toArray, List.set_cons_succ, List.set_cons_zero]; rfl) (fun z vals hv => ?_) ?_; (exact ⟨_, (by first | (simp [ev, Act.eval] <;> rfl) | (simp [ev, Act.eval, It.val]; done)), not_any e x z.w (HX.out.on z.h)⟩)) | (refine call_tree 68 ((Nn (Nn e))) rfl Try.func21 (by kernel_rfl) rfl rfl rfl rfl (by simp only [Act.put, List.setIfInBounds_toArray, List.set_cons_succ, List.set_cons_zero]; rfl) (fun z vals hv => ?_) ?_; (obtain ⟨y1, e1, r1⟩ := hv 67 _ rfl (by simp); exact ⟨_, (by first | (simp [ev, Act.eval, e1] <;> rfl) | (simp [ev, Act.eval, It.val, e1]; done)), not_any (Nn e) y1 z.w r1⟩)) | (refine call_tree 77 ((Tw 5 e f)) rfl Try.func19 (by kernel_rfl) rfl rfl rfl rfl (by simp only [Act.put, List.setIfInBounds_toArray, List.set_cons_succ, List.set_cons_zero]; rfl) (fun z vals hv => ?_) ?_; (exact ⟨_, (by first | (simp [ev, Act.eval] <;> rfl) | (simp [ev, Act.eval, It.val]; done)), two_any 5 e f x y z.w (HX.out.on z.h) (HY.out.on z.h)⟩)) | (refine call_tree 89 ((Tw 6 e f)) rfl Try.func19 (by kernel_rfl) rfl rfl rfl rfl (by simp only [Act.put, List.setIfInBounds_toArray, List.set_cons_succ, List.set_cons_zero]; rfl) (fun z vals hv => ?_) ?_; (exact ⟨_, (by first | (simp [ev, Act.eval] <;> rfl) | (simp [ev, Act.eval, It.val]; done)), two_any 6 e f x y z.w (HX.out.on z.h) (HY.out.on z.h)⟩)) | (refine call_at 62 rfl ?_; (refine call_one (.bool false) Try.func16 (by kernel_rfl) rfl rfl rfl rfl (by simp only [Act.put, List.setIfInBounds_toArray, List.set_cons_succ, List.set_cons_zero]; rfl) (fun z vals hv => ?_) ?_; (obtain ⟨y1, e1, r1⟩ := hv 60 _ rfl (by simp); have hc := Holds_top v _ y1 z.w r1; rw [G1.out] at hc; exact ⟨_, (by first | (simp [ev, Act.eval, e1, Env.val] <;> rfl) | (simp [ev, Act.eval, It.val, e1, Env.val]; done)), hc⟩))) | (refine call_at 70 rfl ?_; (refine call_one (.bool true) Try.func16 (by kernel_rfl) rfl rfl rfl rfl (by simp only [Act.put, List.setIfInBounds_toArray, List.set_cons_succ, List.set_cons_zero]; rfl) (fun z vals hv => ?_) ?_; (obtain ⟨y1, e1, r1⟩ := hv 68 _ rfl (by simp); have hc := Holds_top v _ y1 z.w r1; rw [G2.out] at hc; exact ⟨_, (by first | (simp [ev, Act.eval, e1, Env.val] <;> rfl) | (simp [ev, Act.eval, It.val, e1, Env.val]; done)), hc⟩))) | (refine call_at 79 rfl ?_; (refine call_one (.bool false) Try.func16 (by kernel_rfl) rfl rfl rfl rfl (by simp only [Act.put, List.setIfInBounds_toArray, List.set_cons_succ, List.set_cons_zero]; rfl) (fun z vals hv => ?_) ?_; (obtain ⟨y1, e1, r1⟩ := hv 77 _ rfl (by simp); have hc := Holds_top v _ y1 z.w r1; rw [G3.out] at hc; exact ⟨_, (by first | (simp [ev, Act.eval, e1, Env.val] <;> rfl) | (simp [ev, Act.eval, It.val, e1, Env.val]; done)), hc⟩))) | (refine call_at 91 rfl ?_; (refine call_one (.bool true) Try.func16 (by kernel_rfl) rfl rfl rfl rfl (by simp only [Act.put, List.setIfInBounds_toArray, List.set_cons_succ, List.set_cons_zero]; rfl) (fun z vals hv => ?_) ?_; (obtain ⟨y1, e1, r1⟩ := hv 89 _ rfl (by simp); have hc := Holds_top v _ y1 z.w r1; rw [G4.out] at hc; exact ⟨_, (by first | (simp [ev, Act.eval, e1, Env.val] <;> rfl) | (simp [ev, Act.eval, It.val, e1, Env.val]; done)), hc⟩))))); intro wq vals hgq; simp only [over, Nt, List.map_cons, List.map_nil, List.foldl_cons, List.foldl_nil, Act.put, List.setIfInBounds_toArray, List.set_cons_succ, List.set_cons_zero]; clear hcr)
      clear hp0 hp1 hp2
      replace HX := Lib.hid (HX.out.on hgq)
      replace HY := Lib.hid (HY.out.on hgq)
      replace xa0 := (hgq.cell (p := ⟨_, _, none⟩) (by (try dsimp only) <;> omega)).trans xa0
      replace xa1 := (hgq.cell (p := ⟨_, _, none⟩) (by (try dsimp only) <;> omega)).trans xa1
      replace xa2 := (hgq.cell (p := ⟨_, _, none⟩) (by (try dsimp only) <;> omega)).trans xa2
      replace xa3 := (hgq.cell (p := ⟨_, _, none⟩) (by (try dsimp only) <;> omega)).trans xa3
      replace ya0 := (hgq.cell (p := ⟨_, _, none⟩) (by (try dsimp only) <;> omega)).trans ya0
      replace ya1 := (hgq.cell (p := ⟨_, _, none⟩) (by (try dsimp only) <;> omega)).trans ya1
      replace ya2 := (hgq.cell (p := ⟨_, _, none⟩) (by (try dsimp only) <;> omega)).trans ya2
      replace ya3 := (hgq.cell (p := ⟨_, _, none⟩) (by (try dsimp only) <;> omega)).trans ya3
      replace ea0 := (hgq.cell (p := ⟨_, _, none⟩) (by (try dsimp only) <;> omega)).trans ea0
      replace ea1 := (hgq.cell (p := ⟨_, _, none⟩) (by (try dsimp only) <;> omega)).trans ea1
      replace ea2 := (hgq.cell (p := ⟨_, _, none⟩) (by (try dsimp only) <;> omega)).trans ea2
      replace ea3 := (hgq.cell (p := ⟨_, _, none⟩) (by (try dsimp only) <;> omega)).trans ea3
      replace ea4 := (hgq.cell (p := ⟨_, _, none⟩) (by (try dsimp only) <;> omega)).trans ea4
      replace ea5 := (hgq.cell (p := ⟨_, _, none⟩) (by (try dsimp only) <;> omega)).trans ea5
      replace ea6 := (hgq.cell (p := ⟨_, _, none⟩) (by (try dsimp only) <;> omega)).trans ea6
      replace ea7 := (hgq.cell (p := ⟨_, _, none⟩) (by (try dsimp only) <;> omega)).trans ea7
      replace ea8 := (hgq.cell (p := ⟨_, _, none⟩) (by (try dsimp only) <;> omega)).trans ea8
      have zd2 := hgq.size
      replace hT := hT.trans (hgq.mono (by omega))
      clear hgq
      try clear vals
      obtain ⟨d2, rfl⟩ : ∃ d2, d2 = wq := ⟨_, rfl⟩
      go_wp2_with fail
      have hp0 : w.heap.size < d2.heap.size := by omega
      have hp1 : w.heap.size + 1 < d2.heap.size := by omega
      have hp2 : w.heap.size + 1 + 1 < d2.heap.size := by omega
      ((with_reducible refine region_trees ([(100, (Tw 5 e f)), (101, (Nn (Tw 5 e f))), (105, (Nn e)), (107, (Nn f)), (108, (Tw 6 (Nn e) (Nn f))), (115, (Tw 6 e f)), (116, (Nn (Tw 6 e f))), (120, (Nn e)), (122, (Nn f)), (123, (Tw 5 (Nn e) (Nn f)))]) ?_ ?_ ?_ ?_ ?_); kernel_rfl; kernel_rfl; rfl; rfl; intro hnonemp hcr; (repeat (first | (refine mix_plain rfl rfl rfl ?_; (first | go_big_quiet_skip | (go_big_quiet_want; go_big_quiet_op; go_big_quiet_on)); refine wpQuiet_nil ?_) | (refine call_skip rfl rfl (by simp only [Act.put, List.setIfInBounds_toArray, List.set_cons_succ, List.set_cons_zero]; rfl) ?_) | (refine call_tree 100 ((Tw 5 e f)) rfl Try.func19 (by kernel_rfl) rfl rfl rfl rfl (by simp only [Act.put, List.setIfInBounds_toArray, List.set_cons_succ, List.set_cons_zero]; rfl) (fun z vals hv => ?_) ?_; (exact ⟨_, (by first | (simp [ev, Act.eval] <;> rfl) | (simp [ev, Act.eval, It.val]; done)), two_any 5 e f x y z.w (HX.out.on z.h) (HY.out.on z.h)⟩)) | (refine call_tree 101 ((Nn (Tw 5 e f))) rfl Try.func21 (by kernel_rfl) rfl rfl rfl rfl (by simp only [Act.put, List.setIfInBounds_toArray, List.set_cons_succ, List.set_cons_zero]; rfl) (fun z vals hv => ?_) ?_; (obtain ⟨y1, e1, r1⟩ := hv 100 _ rfl (by simp); exact ⟨_, (by first | (simp [ev, Act.eval, e1] <;> rfl) | (simp [ev, Act.eval, It.val, e1]; done)), not_any (Tw 5 e f) y1 z.w r1⟩)) | (refine call_tree 105 ((Nn e)) rfl Try.func21 (by kernel_rfl) rfl rfl rfl rfl (by simp only [Act.put, List.setIfInBounds_toArray, List.set_cons_succ, List.set_cons_zero]; rfl) (fun z vals hv => ?_) ?_; (exact ⟨_, (by first | (simp [ev, Act.eval] <;> rfl) | (simp [ev, Act.eval, It.val]; done)), not_any e x z.w (HX.out.on z.h)⟩)) | (refine call_tree 107 ((Nn f)) rfl Try.func21 (by kernel_rfl) rfl rfl rfl rfl (by simp only [Act.put, List.setIfInBounds_toArray, List.set_cons_succ, List.set_cons_zero]; rfl) (fun z vals hv => ?_) ?_; (exact ⟨_, (by first | (simp [ev, Act.eval] <;> rfl) | (simp [ev, Act.eval, It.val]; done)), not_any f y z.w (HY.out.on z.h)⟩)) | (refine call_tree 108 ((Tw 6 (Nn e) (Nn f))) rfl Try.func19 (by kernel_rfl) rfl rfl rfl rfl (by simp only [Act.put, List.setIfInBounds_toArray, List.set_cons_succ, List.set_cons_zero]; rfl) (fun z vals hv => ?_) ?_; (obtain ⟨y1, e1, r1⟩ := hv 105 _ rfl (by simp); obtain ⟨y2, e2, r2⟩ := hv 107 _ rfl (by simp); exact ⟨_, (by first | (simp [ev, Act.eval, e1, e2] <;> rfl) | (simp [ev, Act.eval, It.val, e1, e2]; done)), two_any 6 (Nn e) (Nn f) y1 y2 z.w r1 r2⟩)) | (refine call_tree 115 ((Tw 6 e f)) rfl Try.func19 (by kernel_rfl) rfl rfl rfl rfl (by simp only [Act.put, List.setIfInBounds_toArray, List.set_cons_succ, List.set_cons_zero]; rfl) (fun z vals hv => ?_) ?_; (exact ⟨_, (by first | (simp [ev, Act.eval] <;> rfl) | (simp [ev, Act.eval, It.val]; done)), two_any 6 e f x y z.w (HX.out.on z.h) (HY.out.on z.h)⟩)) | (refine call_tree 116 ((Nn (Tw 6 e f))) rfl Try.func21 (by kernel_rfl) rfl rfl rfl rfl (by simp only [Act.put, List.setIfInBounds_toArray, List.set_cons_succ, List.set_cons_zero]; rfl) (fun z vals hv => ?_) ?_; (obtain ⟨y1, e1, r1⟩ := hv 115 _ rfl (by simp); exact ⟨_, (by first | (simp [ev, Act.eval, e1] <;> rfl) | (simp [ev, Act.eval, It.val, e1]; done)), not_any (Tw 6 e f) y1 z.w r1⟩)) | (refine call_tree 120 ((Nn e)) rfl Try.func21 (by kernel_rfl) rfl rfl rfl rfl (by simp only [Act.put, List.setIfInBounds_toArray, List.set_cons_succ, List.set_cons_zero]; rfl) (fun z vals hv => ?_) ?_; (exact ⟨_, (by first | (simp [ev, Act.eval] <;> rfl) | (simp [ev, Act.eval, It.val]; done)), not_any e x z.w (HX.out.on z.h)⟩)) | (refine call_tree 122 ((Nn f)) rfl Try.func21 (by kernel_rfl) rfl rfl rfl rfl (by simp only [Act.put, List.setIfInBounds_toArray, List.set_cons_succ, List.set_cons_zero]; rfl) (fun z vals hv => ?_) ?_; (exact ⟨_, (by first | (simp [ev, Act.eval] <;> rfl) | (simp [ev, Act.eval, It.val]; done)), not_any f y z.w (HY.out.on z.h)⟩)) | (refine call_tree 123 ((Tw 5 (Nn e) (Nn f))) rfl Try.func19 (by kernel_rfl) rfl rfl rfl rfl (by simp only [Act.put, List.setIfInBounds_toArray, List.set_cons_succ, List.set_cons_zero]; rfl) (fun z vals hv => ?_) ?_; (obtain ⟨y1, e1, r1⟩ := hv 120 _ rfl (by simp); obtain ⟨y2, e2, r2⟩ := hv 122 _ rfl (by simp); exact ⟨_, (by first | (simp [ev, Act.eval, e1, e2] <;> rfl) | (simp [ev, Act.eval, It.val, e1, e2]; done)), two_any 5 (Nn e) (Nn f) y1 y2 z.w r1 r2⟩)) | (refine call_at 103 rfl ?_; (refine call_one (.bool true) Try.func16 (by kernel_rfl) rfl rfl rfl rfl (by simp only [Act.put, List.setIfInBounds_toArray, List.set_cons_succ, List.set_cons_zero]; rfl) (fun z vals hv => ?_) ?_; (obtain ⟨y1, e1, r1⟩ := hv 101 _ rfl (by simp); have hc := Holds_top v _ y1 z.w r1; rw [G5.out] at hc; exact ⟨_, (by first | (simp [ev, Act.eval, e1, Env.val] <;> rfl) | (simp [ev, Act.eval, It.val, e1, Env.val]; done)), hc⟩))) | (refine call_at 110 rfl ?_; (refine call_one (.bool true) Try.func16 (by kernel_rfl) rfl rfl rfl rfl (by simp only [Act.put, List.setIfInBounds_toArray, List.set_cons_succ, List.set_cons_zero]; rfl) (fun z vals hv => ?_) ?_; (obtain ⟨y1, e1, r1⟩ := hv 108 _ rfl (by simp); have hc := Holds_top v _ y1 z.w r1; rw [G6.out] at hc; exact ⟨_, (by first | (simp [ev, Act.eval, e1, Env.val] <;> rfl) | (simp [ev, Act.eval, It.val, e1, Env.val]; done)), hc⟩))) | (refine call_at 118 rfl ?_; (refine call_one (.bool false) Try.func16 (by kernel_rfl) rfl rfl rfl rfl (by simp only [Act.put, List.setIfInBounds_toArray, List.set_cons_succ, List.set_cons_zero]; rfl) (fun z vals hv => ?_) ?_; (obtain ⟨y1, e1, r1⟩ := hv 116 _ rfl (by simp); have hc := Holds_top v _ y1 z.w r1; rw [G7.out] at hc; exact ⟨_, (by first | (simp [ev, Act.eval, e1, Env.val] <;> rfl) | (simp [ev, Act.eval, It.val, e1, Env.val]; done)), hc⟩))) | (refine call_at 125 rfl ?_; (refine call_one (.bool false) Try.func16 (by kernel_rfl) rfl rfl rfl rfl (by simp only [Act.put, List.setIfInBounds_toArray, List.set_cons_succ, List.set_cons_zero]; rfl) (fun z vals hv => ?_) ?_; (obtain ⟨y1, e1, r1⟩ := hv 123 _ rfl (by simp); have hc := Holds_top v _ y1 z.w r1; rw [G8.out] at hc; exact ⟨_, (by first | (simp [ev, Act.eval, e1, Env.val] <;> rfl) | (simp [ev, Act.eval, It.val, e1, Env.val]; done)), hc⟩))) | (refine call_at 129 rfl ?_; (refine call_one (.bool true) Try.func11 (by kernel_rfl) rfl rfl rfl rfl (by simp only [Act.put, List.setIfInBounds_toArray, List.set_cons_succ, List.set_cons_zero]; rfl) (fun z vals hv => ?_) ?_; (exact ⟨_, (by first | (simp [ev, Act.eval] <;> rfl) | (simp [ev, Act.eval, It.val]; done)), awake_any z.w⟩))))); intro wq vals hgq; simp only [over, Nt, List.map_cons, List.map_nil, List.foldl_cons, List.foldl_nil, Act.put, List.setIfInBounds_toArray, List.set_cons_succ, List.set_cons_zero]; clear hcr)
      clear hp0 hp1 hp2
      replace HX := Lib.hid (HX.out.on hgq)
      replace HY := Lib.hid (HY.out.on hgq)
      replace xa0 := (hgq.cell (p := ⟨_, _, none⟩) (by (try dsimp only) <;> omega)).trans xa0
      replace xa1 := (hgq.cell (p := ⟨_, _, none⟩) (by (try dsimp only) <;> omega)).trans xa1
      replace xa2 := (hgq.cell (p := ⟨_, _, none⟩) (by (try dsimp only) <;> omega)).trans xa2
      replace xa3 := (hgq.cell (p := ⟨_, _, none⟩) (by (try dsimp only) <;> omega)).trans xa3
      replace ya0 := (hgq.cell (p := ⟨_, _, none⟩) (by (try dsimp only) <;> omega)).trans ya0
      replace ya1 := (hgq.cell (p := ⟨_, _, none⟩) (by (try dsimp only) <;> omega)).trans ya1
      replace ya2 := (hgq.cell (p := ⟨_, _, none⟩) (by (try dsimp only) <;> omega)).trans ya2
      replace ya3 := (hgq.cell (p := ⟨_, _, none⟩) (by (try dsimp only) <;> omega)).trans ya3
      replace ea0 := (hgq.cell (p := ⟨_, _, none⟩) (by (try dsimp only) <;> omega)).trans ea0
      replace ea1 := (hgq.cell (p := ⟨_, _, none⟩) (by (try dsimp only) <;> omega)).trans ea1
      replace ea2 := (hgq.cell (p := ⟨_, _, none⟩) (by (try dsimp only) <;> omega)).trans ea2
      replace ea3 := (hgq.cell (p := ⟨_, _, none⟩) (by (try dsimp only) <;> omega)).trans ea3
      replace ea4 := (hgq.cell (p := ⟨_, _, none⟩) (by (try dsimp only) <;> omega)).trans ea4
      replace ea5 := (hgq.cell (p := ⟨_, _, none⟩) (by (try dsimp only) <;> omega)).trans ea5
      replace ea6 := (hgq.cell (p := ⟨_, _, none⟩) (by (try dsimp only) <;> omega)).trans ea6
      replace ea7 := (hgq.cell (p := ⟨_, _, none⟩) (by (try dsimp only) <;> omega)).trans ea7
      replace ea8 := (hgq.cell (p := ⟨_, _, none⟩) (by (try dsimp only) <;> omega)).trans ea8
      have zd3 := hgq.size
      replace hT := hT.trans (hgq.mono (by omega))
      clear hgq
      try clear vals
      obtain ⟨d3, rfl⟩ : ∃ d3, d3 = wq := ⟨_, rfl⟩
      go_wp2_with fail
      go_ret
      exact ⟨by first | rfl | exact ret_bool rfl, hT⟩
    · have F1 := Lib.hid hta
      have F2 := Lib.hid htb
      have G1 := Lib.hid (show topH v (Nn e) = false by rw [O1.topNot (by omega)]; simp only [O1.topNot (v := v) (by omega), P1.topNot (v := v) (by omega), O1.topAnd (v := v) P1 (by omega), O1.topOr (v := v) P1 (by omega), hta, htb]; rfl)
      have G2 := Lib.hid (show topH v (Nn (Nn e)) = true by rw [O1.not.topNot (by omega)]; simp only [O1.topNot (v := v) (by omega), P1.topNot (v := v) (by omega), O1.topAnd (v := v) P1 (by omega), O1.topOr (v := v) P1 (by omega), hta, htb]; rfl)
      have G3 := Lib.hid (show topH v (Tw 5 e f) = true by rw [O1.topAnd P1 (by omega)]; simp only [O1.topNot (v := v) (by omega), P1.topNot (v := v) (by omega), O1.topAnd (v := v) P1 (by omega), O1.topOr (v := v) P1 (by omega), hta, htb]; rfl)
      have G4 := Lib.hid (show topH v (Tw 6 e f) = true by rw [O1.topOr P1 (by omega)]; simp only [O1.topNot (v := v) (by omega), P1.topNot (v := v) (by omega), O1.topAnd (v := v) P1 (by omega), O1.topOr (v := v) P1 (by omega), hta, htb]; rfl)
      have G5 := Lib.hid (show topH v (Nn (Tw 5 e f)) = false by rw [(O1.and P1).topNot (by omega)]; simp only [O1.topNot (v := v) (by omega), P1.topNot (v := v) (by omega), O1.topAnd (v := v) P1 (by omega), O1.topOr (v := v) P1 (by omega), hta, htb]; rfl)
      have G6 := Lib.hid (show topH v (Tw 6 (Nn e) (Nn f)) = false by rw [O1.not.topOr P1.not (by omega)]; simp only [O1.topNot (v := v) (by omega), P1.topNot (v := v) (by omega), O1.topAnd (v := v) P1 (by omega), O1.topOr (v := v) P1 (by omega), hta, htb]; rfl)
      have G7 := Lib.hid (show topH v (Nn (Tw 6 e f)) = false by rw [(O1.or P1).topNot (by omega)]; simp only [O1.topNot (v := v) (by omega), P1.topNot (v := v) (by omega), O1.topAnd (v := v) P1 (by omega), O1.topOr (v := v) P1 (by omega), hta, htb]; rfl)
      have G8 := Lib.hid (show topH v (Tw 5 (Nn e) (Nn f)) = false by rw [O1.not.topAnd P1.not (by omega)]; simp only [O1.topNot (v := v) (by omega), P1.topNot (v := v) (by omega), O1.topAnd (v := v) P1 (by omega), O1.topOr (v := v) P1 (by omega), hta, htb]; rfl)
      clear hta htb O1 P1
      go_wp2_with fail
      have hp0 : w.heap.size < c10.heap.size := by omega
      have hp1 : w.heap.size + 1 < c10.heap.size := by omega
      have hp2 : w.heap.size + 1 + 1 < c10.heap.size := by omega
      ((with_reducible refine region_trees ([]) ?_ ?_ ?_ ?_ ?_); kernel_rfl; kernel_rfl; rfl; rfl; intro hnonemp hcr; (repeat (first | (refine mix_plain rfl rfl rfl ?_; (first | go_big_quiet_skip | (go_big_quiet_want; go_big_quiet_op; go_big_quiet_on)); refine wpQuiet_nil ?_) | (refine call_skip rfl rfl (by simp only [Act.put, List.setIfInBounds_toArray, List.set_cons_succ, List.set_cons_zero]; rfl) ?_) | (refine call_at 55 rfl ?_; (refine call_one (.bool true) Try.func16 (by kernel_rfl) rfl rfl rfl rfl (by simp only [Act.put, List.setIfInBounds_toArray, List.set_cons_succ, List.set_cons_zero]; rfl) (fun z vals hv => ?_) ?_; (have hc := Holds_top v _ x z.w (HX.out.on z.h); rw [F1.out] at hc; exact ⟨_, (by first | (simp [ev, Act.eval, Env.val] <;> rfl) | (simp [ev, Act.eval, It.val, Env.val]; done)), hc⟩))) | (refine call_at 58 rfl ?_; (refine call_one (.bool true) Try.func16 (by kernel_rfl) rfl rfl rfl rfl (by simp only [Act.put, List.setIfInBounds_toArray, List.set_cons_succ, List.set_cons_zero]; rfl) (fun z vals hv => ?_) ?_; (have hc := Holds_top v _ y z.w (HY.out.on z.h); rw [F2.out] at hc; exact ⟨_, (by first | (simp [ev, Act.eval, Env.val] <;> rfl) | (simp [ev, Act.eval, It.val, Env.val]; done)), hc⟩))))); intro wq vals hgq; simp only [over, Nt, List.map_cons, List.map_nil, List.foldl_cons, List.foldl_nil, Act.put, List.setIfInBounds_toArray, List.set_cons_succ, List.set_cons_zero]; clear hcr)
      clear hp0 hp1 hp2
      replace HX := Lib.hid (HX.out.on hgq)
      replace HY := Lib.hid (HY.out.on hgq)
      replace xa0 := (hgq.cell (p := ⟨_, _, none⟩) (by (try dsimp only) <;> omega)).trans xa0
      replace xa1 := (hgq.cell (p := ⟨_, _, none⟩) (by (try dsimp only) <;> omega)).trans xa1
      replace xa2 := (hgq.cell (p := ⟨_, _, none⟩) (by (try dsimp only) <;> omega)).trans xa2
      replace xa3 := (hgq.cell (p := ⟨_, _, none⟩) (by (try dsimp only) <;> omega)).trans xa3
      replace ya0 := (hgq.cell (p := ⟨_, _, none⟩) (by (try dsimp only) <;> omega)).trans ya0
      replace ya1 := (hgq.cell (p := ⟨_, _, none⟩) (by (try dsimp only) <;> omega)).trans ya1
      replace ya2 := (hgq.cell (p := ⟨_, _, none⟩) (by (try dsimp only) <;> omega)).trans ya2
      replace ya3 := (hgq.cell (p := ⟨_, _, none⟩) (by (try dsimp only) <;> omega)).trans ya3
      replace ea0 := (hgq.cell (p := ⟨_, _, none⟩) (by (try dsimp only) <;> omega)).trans ea0
      replace ea1 := (hgq.cell (p := ⟨_, _, none⟩) (by (try dsimp only) <;> omega)).trans ea1
      replace ea2 := (hgq.cell (p := ⟨_, _, none⟩) (by (try dsimp only) <;> omega)).trans ea2
      replace ea3 := (hgq.cell (p := ⟨_, _, none⟩) (by (try dsimp only) <;> omega)).trans ea3
      replace ea4 := (hgq.cell (p := ⟨_, _, none⟩) (by (try dsimp only) <;> omega)).trans ea4
      replace ea5 := (hgq.cell (p := ⟨_, _, none⟩) (by (try dsimp only) <;> omega)).trans ea5
      replace ea6 := (hgq.cell (p := ⟨_, _, none⟩) (by (try dsimp only) <;> omega)).trans ea6
      replace ea7 := (hgq.cell (p := ⟨_, _, none⟩) (by (try dsimp only) <;> omega)).trans ea7
      replace ea8 := (hgq.cell (p := ⟨_, _, none⟩) (by (try dsimp only) <;> omega)).trans ea8
      have zd1 := hgq.size
      replace hT := hT.trans (hgq.mono (by omega))
      clear hgq
      try clear vals
      obtain ⟨d1, rfl⟩ : ∃ d1, d1 = wq := ⟨_, rfl⟩
      go_wp2_with fail
      have hp0 : w.heap.size < d1.heap.size := by omega
      have hp1 : w.heap.size + 1 < d1.heap.size := by omega
      have hp2 : w.heap.size + 1 + 1 < d1.heap.size := by omega
      ((with_reducible refine region_trees ([(60, (Nn e)), (67, (Nn e)), (68, (Nn (Nn e))), (77, (Tw 5 e f)), (89, (Tw 6 e f))]) ?_ ?_ ?_ ?_ ?_); kernel_rfl; kernel_rfl; rfl; rfl; intro hnonemp hcr; (repeat (first | (refine mix_plain rfl rfl rfl ?_; (first | go_big_quiet_skip | (go_big_quiet_want; go_big_quiet_op; go_big_quiet_on)); refine wpQuiet_nil ?_) | (refine call_skip rfl rfl (by simp only [Act.put, List.setIfInBounds_toArray, List.set_cons_succ, List.set_cons_zero]; rfl) ?_) | (refine call_tree 60 ((Nn e)) rfl Try.func21 (by kernel_rfl) rfl rfl rfl rfl (by simp only [Act.put, List.setIfInBounds_toArray, List.set_cons_succ, List.set_cons_zero]; rfl) (fun z vals hv => ?_) ?_; (exact ⟨_, (by first | (simp [ev, Act.eval] <;> rfl) | (simp [ev, Act.eval, It.val]; done)), not_any e x z.w (HX.out.on z.h)⟩)) | (refine call_tree 67 ((Nn e)) rfl Try.func21 (by kernel_rfl) rfl rfl rfl rfl (by simp only [Act.put, List.setIfInBounds_toArray, List.set_cons_succ, List.set_cons_zero]; rfl) (fun z vals hv => ?_) ?_; (exact ⟨_, (by first | (simp [ev, Act.eval] <;> rfl) | (simp [ev, Act.eval, It.val]; done)), not_any e x z.w (HX.out.on z.h)⟩)) | (refine call_tree 68 ((Nn (Nn e))) rfl Try.func21 (by kernel_rfl) rfl rfl rfl rfl (by simp only [Act.put, List.setIfInBounds_toArray, List.set_cons_succ, List.set_cons_zero]; rfl) (fun z vals hv => ?_) ?_; (obtain ⟨y1, e1, r1⟩ := hv 67 _ rfl (by simp); exact ⟨_, (by first | (simp [ev, Act.eval, e1] <;> rfl) | (simp [ev, Act.eval, It.val, e1]; done)), not_any (Nn e) y1 z.w r1⟩)) | (refine call_tree 77 ((Tw 5 e f)) rfl Try.func19 (by kernel_rfl) rfl rfl rfl rfl (by simp only [Act.put, List.setIfInBounds_toArray, List.set_cons_succ, List.set_cons_zero]; rfl) (fun z vals hv => ?_) ?_; (exact ⟨_, (by first | (simp [ev, Act.eval] <;> rfl) | (simp [ev, Act.eval, It.val]; done)), two_any 5 e f x y z.w (HX.out.on z.h) (HY.out.on z.h)⟩)) | (refine call_tree 89 ((Tw 6 e f)) rfl Try.func19 (by kernel_rfl) rfl rfl rfl rfl (by simp only [Act.put, List.setIfInBounds_toArray, List.set_cons_succ, List.set_cons_zero]; rfl) (fun z vals hv => ?_) ?_; (exact ⟨_, (by first | (simp [ev, Act.eval] <;> rfl) | (simp [ev, Act.eval, It.val]; done)), two_any 6 e f x y z.w (HX.out.on z.h) (HY.out.on z.h)⟩)) | (refine call_at 62 rfl ?_; (refine call_one (.bool false) Try.func16 (by kernel_rfl) rfl rfl rfl rfl (by simp only [Act.put, List.setIfInBounds_toArray, List.set_cons_succ, List.set_cons_zero]; rfl) (fun z vals hv => ?_) ?_; (obtain ⟨y1, e1, r1⟩ := hv 60 _ rfl (by simp); have hc := Holds_top v _ y1 z.w r1; rw [G1.out] at hc; exact ⟨_, (by first | (simp [ev, Act.eval, e1, Env.val] <;> rfl) | (simp [ev, Act.eval, It.val, e1, Env.val]; done)), hc⟩))) | (refine call_at 70 rfl ?_; (refine call_one (.bool true) Try.func16 (by kernel_rfl) rfl rfl rfl rfl (by simp only [Act.put, List.setIfInBounds_toArray, List.set_cons_succ, List.set_cons_zero]; rfl) (fun z vals hv => ?_) ?_; (obtain ⟨y1, e1, r1⟩ := hv 68 _ rfl (by simp); have hc := Holds_top v _ y1 z.w r1; rw [G2.out] at hc; exact ⟨_, (by first | (simp [ev, Act.eval, e1, Env.val] <;> rfl) | (simp [ev, Act.eval, It.val, e1, Env.val]; done)), hc⟩))) | (refine call_at 79 rfl ?_; (refine call_one (.bool true) Try.func16 (by kernel_rfl) rfl rfl rfl rfl (by simp only [Act.put, List.setIfInBounds_toArray, List.set_cons_succ, List.set_cons_zero]; rfl) (fun z vals hv => ?_) ?_; (obtain ⟨y1, e1, r1⟩ := hv 77 _ rfl (by simp); have hc := Holds_top v _ y1 z.w r1; rw [G3.out] at hc; exact ⟨_, (by first | (simp [ev, Act.eval, e1, Env.val] <;> rfl) | (simp [ev, Act.eval, It.val, e1, Env.val]; done)), hc⟩))) | (refine call_at 91 rfl ?_; (refine call_one (.bool true) Try.func16 (by kernel_rfl) rfl rfl rfl rfl (by simp only [Act.put, List.setIfInBounds_toArray, List.set_cons_succ, List.set_cons_zero]; rfl) (fun z vals hv => ?_) ?_; (obtain ⟨y1, e1, r1⟩ := hv 89 _ rfl (by simp); have hc := Holds_top v _ y1 z.w r1; rw [G4.out] at hc; exact ⟨_, (by first | (simp [ev, Act.eval, e1, Env.val] <;> rfl) | (simp [ev, Act.eval, It.val, e1, Env.val]; done)), hc⟩))))); intro wq vals hgq; simp only [over, Nt, List.map_cons, List.map_nil, List.foldl_cons, List.foldl_nil, Act.put, List.setIfInBounds_toArray, List.set_cons_succ, List.set_cons_zero]; clear hcr)
      clear hp0 hp1 hp2
      replace HX := Lib.hid (HX.out.on hgq)
      replace HY := Lib.hid (HY.out.on hgq)
      replace xa0 := (hgq.cell (p := ⟨_, _, none⟩) (by (try dsimp only) <;> omega)).trans xa0
      replace xa1 := (hgq.cell (p := ⟨_, _, none⟩) (by (try dsimp only) <;> omega)).trans xa1
      replace xa2 := (hgq.cell (p := ⟨_, _, none⟩) (by (try dsimp only) <;> omega)).trans xa2
      replace xa3 := (hgq.cell (p := ⟨_, _, none⟩) (by (try dsimp only) <;> omega)).trans xa3
      replace ya0 := (hgq.cell (p := ⟨_, _, none⟩) (by (try dsimp only) <;> omega)).trans ya0
      replace ya1 := (hgq.cell (p := ⟨_, _, none⟩) (by (try dsimp only) <;> omega)).trans ya1
      replace ya2 := (hgq.cell (p := ⟨_, _, none⟩) (by (try dsimp only) <;> omega)).trans ya2
      replace ya3 := (hgq.cell (p := ⟨_, _, none⟩) (by (try dsimp only) <;> omega)).trans ya3
      replace ea0 := (hgq.cell (p := ⟨_, _, none⟩) (by (try dsimp only) <;> omega)).trans ea0
      replace ea1 := (hgq.cell (p := ⟨_, _, none⟩) (by (try dsimp only) <;> omega)).trans ea1
      replace ea2 := (hgq.cell (p := ⟨_, _, none⟩) (by (try dsimp only) <;> omega)).trans ea2
      replace ea3 := (hgq.cell (p := ⟨_, _, none⟩) (by (try dsimp only) <;> omega)).trans ea3
      replace ea4 := (hgq.cell (p := ⟨_, _, none⟩) (by (try dsimp only) <;> omega)).trans ea4
      replace ea5 := (hgq.cell (p := ⟨_, _, none⟩) (by (try dsimp only) <;> omega)).trans ea5
      replace ea6 := (hgq.cell (p := ⟨_, _, none⟩) (by (try dsimp only) <;> omega)).trans ea6
      replace ea7 := (hgq.cell (p := ⟨_, _, none⟩) (by (try dsimp only) <;> omega)).trans ea7
      replace ea8 := (hgq.cell (p := ⟨_, _, none⟩) (by (try dsimp only) <;> omega)).trans ea8
      have zd2 := hgq.size
      replace hT := hT.trans (hgq.mono (by omega))
      clear hgq
      try clear vals
      obtain ⟨d2, rfl⟩ : ∃ d2, d2 = wq := ⟨_, rfl⟩
      go_wp2_with fail
      have hp0 : w.heap.size < d2.heap.size := by omega
      have hp1 : w.heap.size + 1 < d2.heap.size := by omega
      have hp2 : w.heap.size + 1 + 1 < d2.heap.size := by omega
      ((with_reducible refine region_trees ([(100, (Tw 5 e f)), (101, (Nn (Tw 5 e f))), (105, (Nn e)), (107, (Nn f)), (108, (Tw 6 (Nn e) (Nn f))), (115, (Tw 6 e f)), (116, (Nn (Tw 6 e f))), (120, (Nn e)), (122, (Nn f)), (123, (Tw 5 (Nn e) (Nn f)))]) ?_ ?_ ?_ ?_ ?_); kernel_rfl; kernel_rfl; rfl; rfl; intro hnonemp hcr; (repeat (first | (refine mix_plain rfl rfl rfl ?_; (first | go_big_quiet_skip | (go_big_quiet_want; go_big_quiet_op; go_big_quiet_on)); refine wpQuiet_nil ?_) | (refine call_skip rfl rfl (by simp only [Act.put, List.setIfInBounds_toArray, List.set_cons_succ, List.set_cons_zero]; rfl) ?_) | (refine call_tree 100 ((Tw 5 e f)) rfl Try.func19 (by kernel_rfl) rfl rfl rfl rfl (by simp only [Act.put, List.setIfInBounds_toArray, List.set_cons_succ, List.set_cons_zero]; rfl) (fun z vals hv => ?_) ?_; (exact ⟨_, (by first | (simp [ev, Act.eval] <;> rfl) | (simp [ev, Act.eval, It.val]; done)), two_any 5 e f x y z.w (HX.out.on z.h) (HY.out.on z.h)⟩)) | (refine call_tree 101 ((Nn (Tw 5 e f))) rfl Try.func21 (by kernel_rfl) rfl rfl rfl rfl (by simp only [Act.put, List.setIfInBounds_toArray, List.set_cons_succ, List.set_cons_zero]; rfl) (fun z vals hv => ?_) ?_; (obtain ⟨y1, e1, r1⟩ := hv 100 _ rfl (by simp); exact ⟨_, (by first | (simp [ev, Act.eval, e1] <;> rfl) | (simp [ev, Act.eval, It.val, e1]; done)), not_any (Tw 5 e f) y1 z.w r1⟩)) | (refine call_tree 105 ((Nn e)) rfl Try.func21 (by kernel_rfl) rfl rfl rfl rfl (by simp only [Act.put, List.setIfInBounds_toArray, List.set_cons_succ, List.set_cons_zero]; rfl) (fun z vals hv => ?_) ?_; (exact ⟨_, (by first | (simp [ev, Act.eval] <;> rfl) | (simp [ev, Act.eval, It.val]; done)), not_any e x z.w (HX.out.on z.h)⟩)) | (refine call_tree 107 ((Nn f)) rfl Try.func21 (by kernel_rfl) rfl rfl rfl rfl (by simp only [Act.put, List.setIfInBounds_toArray, List.set_cons_succ, List.set_cons_zero]; rfl) (fun z vals hv => ?_) ?_; (exact ⟨_, (by first | (simp [ev, Act.eval] <;> rfl) | (simp [ev, Act.eval, It.val]; done)), not_any f y z.w (HY.out.on z.h)⟩)) | (refine call_tree 108 ((Tw 6 (Nn e) (Nn f))) rfl Try.func19 (by kernel_rfl) rfl rfl rfl rfl (by simp only [Act.put, List.setIfInBounds_toArray, List.set_cons_succ, List.set_cons_zero]; rfl) (fun z vals hv => ?_) ?_; (obtain ⟨y1, e1, r1⟩ := hv 105 _ rfl (by simp); obtain ⟨y2, e2, r2⟩ := hv 107 _ rfl (by simp); exact ⟨_, (by first | (simp [ev, Act.eval, e1, e2] <;> rfl) | (simp [ev, Act.eval, It.val, e1, e2]; done)), two_any 6 (Nn e) (Nn f) y1 y2 z.w r1 r2⟩)) | (refine call_tree 115 ((Tw 6 e f)) rfl Try.func19 (by kernel_rfl) rfl rfl rfl rfl (by simp only [Act.put, List.setIfInBounds_toArray, List.set_cons_succ, List.set_cons_zero]; rfl) (fun z vals hv => ?_) ?_; (exact ⟨_, (by first | (simp [ev, Act.eval] <;> rfl) | (simp [ev, Act.eval, It.val]; done)), two_any 6 e f x y z.w (HX.out.on z.h) (HY.out.on z.h)⟩)) | (refine call_tree 116 ((Nn (Tw 6 e f))) rfl Try.func21 (by kernel_rfl) rfl rfl rfl rfl (by simp only [Act.put, List.setIfInBounds_toArray, List.set_cons_succ, List.set_cons_zero]; rfl) (fun z vals hv => ?_) ?_; (obtain ⟨y1, e1, r1⟩ := hv 115 _ rfl (by simp); exact ⟨_, (by first | (simp [ev, Act.eval, e1] <;> rfl) | (simp [ev, Act.eval, It.val, e1]; done)), not_any (Tw 6 e f) y1 z.w r1⟩)) | (refine call_tree 120 ((Nn e)) rfl Try.func21 (by kernel_rfl) rfl rfl rfl rfl (by simp only [Act.put, List.setIfInBounds_toArray, List.set_cons_succ, List.set_cons_zero]; rfl) (fun z vals hv => ?_) ?_; (exact ⟨_, (by first | (simp [ev, Act.eval] <;> rfl) | (simp [ev, Act.eval, It.val]; done)), not_any e x z.w (HX.out.on z.h)⟩)) | (refine call_tree 122 ((Nn f)) rfl Try.func21 (by kernel_rfl) rfl rfl rfl rfl (by simp only [Act.put, List.setIfInBounds_toArray, List.set_cons_succ, List.set_cons_zero]; rfl) (fun z vals hv => ?_) ?_; (exact ⟨_, (by first | (simp [ev, Act.eval] <;> rfl) | (simp [ev, Act.eval, It.val]; done)), not_any f y z.w (HY.out.on z.h)⟩)) | (refine call_tree 123 ((Tw 5 (Nn e) (Nn f))) rfl Try.func19 (by kernel_rfl) rfl rfl rfl rfl (by simp only [Act.put, List.setIfInBounds_toArray, List.set_cons_succ, List.set_cons_zero]; rfl) (fun z vals hv => ?_) ?_; (obtain ⟨y1, e1, r1⟩ := hv 120 _ rfl (by simp); obtain ⟨y2, e2, r2⟩ := hv 122 _ rfl (by simp); exact ⟨_, (by first | (simp [ev, Act.eval, e1, e2] <;> rfl) | (simp [ev, Act.eval, It.val, e1, e2]; done)), two_any 5 (Nn e) (Nn f) y1 y2 z.w r1 r2⟩)) | (refine call_at 103 rfl ?_; (refine call_one (.bool false) Try.func16 (by kernel_rfl) rfl rfl rfl rfl (by simp only [Act.put, List.setIfInBounds_toArray, List.set_cons_succ, List.set_cons_zero]; rfl) (fun z vals hv => ?_) ?_; (obtain ⟨y1, e1, r1⟩ := hv 101 _ rfl (by simp); have hc := Holds_top v _ y1 z.w r1; rw [G5.out] at hc; exact ⟨_, (by first | (simp [ev, Act.eval, e1, Env.val] <;> rfl) | (simp [ev, Act.eval, It.val, e1, Env.val]; done)), hc⟩))) | (refine call_at 110 rfl ?_; (refine call_one (.bool false) Try.func16 (by kernel_rfl) rfl rfl rfl rfl (by simp only [Act.put, List.setIfInBounds_toArray, List.set_cons_succ, List.set_cons_zero]; rfl) (fun z vals hv => ?_) ?_; (obtain ⟨y1, e1, r1⟩ := hv 108 _ rfl (by simp); have hc := Holds_top v _ y1 z.w r1; rw [G6.out] at hc; exact ⟨_, (by first | (simp [ev, Act.eval, e1, Env.val] <;> rfl) | (simp [ev, Act.eval, It.val, e1, Env.val]; done)), hc⟩))) | (refine call_at 118 rfl ?_; (refine call_one (.bool false) Try.func16 (by kernel_rfl) rfl rfl rfl rfl (by simp only [Act.put, List.setIfInBounds_toArray, List.set_cons_succ, List.set_cons_zero]; rfl) (fun z vals hv => ?_) ?_; (obtain ⟨y1, e1, r1⟩ := hv 116 _ rfl (by simp); have hc := Holds_top v _ y1 z.w r1; rw [G7.out] at hc; exact ⟨_, (by first | (simp [ev, Act.eval, e1, Env.val] <;> rfl) | (simp [ev, Act.eval, It.val, e1, Env.val]; done)), hc⟩))) | (refine call_at 125 rfl ?_; (refine call_one (.bool false) Try.func16 (by kernel_rfl) rfl rfl rfl rfl (by simp only [Act.put, List.setIfInBounds_toArray, List.set_cons_succ, List.set_cons_zero]; rfl) (fun z vals hv => ?_) ?_; (obtain ⟨y1, e1, r1⟩ := hv 123 _ rfl (by simp); have hc := Holds_top v _ y1 z.w r1; rw [G8.out] at hc; exact ⟨_, (by first | (simp [ev, Act.eval, e1, Env.val] <;> rfl) | (simp [ev, Act.eval, It.val, e1, Env.val]; done)), hc⟩))) | (refine call_at 129 rfl ?_; (refine call_one (.bool true) Try.func11 (by kernel_rfl) rfl rfl rfl rfl (by simp only [Act.put, List.setIfInBounds_toArray, List.set_cons_succ, List.set_cons_zero]; rfl) (fun z vals hv => ?_) ?_; (exact ⟨_, (by first | (simp [ev, Act.eval] <;> rfl) | (simp [ev, Act.eval, It.val]; done)), awake_any z.w⟩))))); intro wq vals hgq; simp only [over, Nt, List.map_cons, List.map_nil, List.foldl_cons, List.foldl_nil, Act.put, List.setIfInBounds_toArray, List.set_cons_succ, List.set_cons_zero]; clear hcr)
      clear hp0 hp1 hp2
      replace HX := Lib.hid (HX.out.on hgq)
      replace HY := Lib.hid (HY.out.on hgq)
      replace xa0 := (hgq.cell (p := ⟨_, _, none⟩) (by (try dsimp only) <;> omega)).trans xa0
      replace xa1 := (hgq.cell (p := ⟨_, _, none⟩) (by (try dsimp only) <;> omega)).trans xa1
      replace xa2 := (hgq.cell (p := ⟨_, _, none⟩) (by (try dsimp only) <;> omega)).trans xa2
      replace xa3 := (hgq.cell (p := ⟨_, _, none⟩) (by (try dsimp only) <;> omega)).trans xa3
      replace ya0 := (hgq.cell (p := ⟨_, _, none⟩) (by (try dsimp only) <;> omega)).trans ya0
      replace ya1 := (hgq.cell (p := ⟨_, _, none⟩) (by (try dsimp only) <;> omega)).trans ya1
      replace ya2 := (hgq.cell (p := ⟨_, _, none⟩) (by (try dsimp only) <;> omega)).trans ya2
      replace ya3 := (hgq.cell (p := ⟨_, _, none⟩) (by (try dsimp only) <;> omega)).trans ya3
      replace ea0 := (hgq.cell (p := ⟨_, _, none⟩) (by (try dsimp only) <;> omega)).trans ea0
      replace ea1 := (hgq.cell (p := ⟨_, _, none⟩) (by (try dsimp only) <;> omega)).trans ea1
      replace ea2 := (hgq.cell (p := ⟨_, _, none⟩) (by (try dsimp only) <;> omega)).trans ea2
      replace ea3 := (hgq.cell (p := ⟨_, _, none⟩) (by (try dsimp only) <;> omega)).trans ea3
      replace ea4 := (hgq.cell (p := ⟨_, _, none⟩) (by (try dsimp only) <;> omega)).trans ea4
      replace ea5 := (hgq.cell (p := ⟨_, _, none⟩) (by (try dsimp only) <;> omega)).trans ea5
      replace ea6 := (hgq.cell (p := ⟨_, _, none⟩) (by (try dsimp only) <;> omega)).trans ea6
      replace ea7 := (hgq.cell (p := ⟨_, _, none⟩) (by (try dsimp only) <;> omega)).trans ea7
      replace ea8 := (hgq.cell (p := ⟨_, _, none⟩) (by (try dsimp only) <;> omega)).trans ea8
      have zd3 := hgq.size
      replace hT := hT.trans (hgq.mono (by omega))
      clear hgq
      try clear vals
      obtain ⟨d3, rfl⟩ : ∃ d3, d3 = wq := ⟨_, rfl⟩
      go_wp2_with fail
      go_ret
      exact ⟨by first | rfl | exact ret_bool rfl, hT⟩

end Xp
end Go.Proofs.Ytigfkbomeimobaa
