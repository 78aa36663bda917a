/-
  Expressions: awake. No condition.
-/
import Derived.Test.YtigfkbomeimobaaMixT
import Derived.BigQuiet
import Derived.StillTailTactics
import Derived.Lib.Overlaps
import Derived.Deep.DeepCutAuto
import Derived.Deep.RegionWith
import Derived.Laws.Rows
set_option maxRecDepth 100000
set_option linter.unusedVariables false
set_option linter.unusedSimpArgs false
namespace Go.Proofs.Ytigfkbomeimobaa
open Go.RowKit

namespace Xp

abbrev Lf (op num : Int) (t : ByteArray) : Ex := .mk op num t []
abbrev Tw (op : Int) (a b : Ex) : Ex := .mk op 0 ⟨#[]⟩ [a, b]
def v0 : Env := ⟨0, 0, 0, 0, 0, 0, ⟨#[]⟩, ⟨#[]⟩, false⟩

def v1 : Env := ⟨0, 60, 0, 0, 0, 0, ⟨#[104, 111, 109, 101]⟩, ⟨#[]⟩, false⟩
set_option maxHeartbeats 8000000 in
theorem awake_any (w : World) : Calls Try.prog 11 #[] w fun r w' => r = .returned (.bool true) ∧ Below w.heap.size w w' := by
  have HL := Lib.hid (show topN v0 (Tw 12 (Lf 1 0 ⟨#[]⟩) (Tw 14 (Lf 1 7 ⟨#[]⟩) (Lf 1 2 ⟨#[]⟩))) = some (-3) by rfl)
  have HM := Lib.hid (show topN v0 (Tw 15 (Tw 12 (Lf 1 0 ⟨#[]⟩) (Lf 1 7 ⟨#[]⟩)) (Lf 1 2 ⟨#[]⟩)) = some (-1) by rfl)
  have HX := Lib.hid (show topT v1 (Lf 3 0 nZone) = .tuple #[.string ⟨#[104, 111, 109, 101]⟩, .bool true] by rfl)
  have HF1 := Lib.hid (show topH v1 ((Tw 9 (Lf 1 1 ⟨#[]⟩) (Tw 14 (Lf 3 0 nUnits) (Lf 3 0 nTotal)))) = false by rfl)
  have HF2 := Lib.hid (show topH v1 (.mk 4 0 ⟨#[]⟩ [(Tw 9 (Lf 1 1 ⟨#[]⟩) (Tw 14 (Lf 3 0 nUnits) (Lf 3 0 nTotal)))]) = true by rfl)
  have HF3 := Lib.hid (show topH v1 (Tw 5 (Tw 7 (Lf 3 0 nZone) (Lf 2 0 ⟨#[104, 111, 109, 101]⟩)) (Tw 10 (Lf 3 0 nUnits) (Lf 1 60 ⟨#[]⟩))) = true by rfl)
  have hov : optV none = .tuple #[.int .i64 0, .bool false] := rfl
  have hov2 : ∀ x : Int, optV (some x) = .tuple #[.int .i64 x, .bool true] := fun _ => rfl
  have hT := Below.refl w.heap.size w
  go_enter Try.func11, Try.ntmps11
  go_wp2_with fail
  refine (num_any 0 _).mono ?_
  rintro r c1 ⟨rfl, h1⟩
  have z1 := h1.size
  replace hT := hT.trans (h1.mono (by omega))
  clear h1
  try unfold It.val
  go_wp2_with fail
  refine (num_any 7 _).mono ?_
  rintro r c2 ⟨rfl, h2⟩
  have z2 := h2.size
  replace hT := hT.trans (h2.mono (by omega))
  clear h2
  try unfold It.val
  go_wp2_with fail
  refine (two_any 12 (Lf 1 0 ⟨#[]⟩) (Lf 1 7 ⟨#[]⟩) ⟨1, 0, ⟨#[]⟩, none, 0, 0⟩ ⟨1, 7, ⟨#[]⟩, none, 0, 0⟩ _ (Rp.leaf _ _ _ _) (Rp.leaf _ _ _ _)).mono ?_
  rintro r c3 ⟨x1, rfl, h3, hx⟩
  have z3 := h3.size
  replace hT := hT.trans (h3.mono (by omega))
  have Hx1 := Lib.hid hx
  clear hx
  clear h3
  try unfold It.val
  go_wp2_with fail
  (obtain ⟨W1, hWW1, hbW1, hzW1, f1W1, pfa⟩ := box1 c3 #[.int .i64 x1.op, .int .i64 x1.num, .string x1.text, .slice x1.A x1.n x1.c] 24; rw [← hWW1]; have pa0 : W1.cell? ⟨c3.heap.size, 0, none⟩ = some (.int .i64 x1.op) := f1W1 0 _ rfl; have pa1 : W1.cell? ⟨c3.heap.size, 1, none⟩ = some (.int .i64 x1.num) := f1W1 1 _ rfl; have pa2 : W1.cell? ⟨c3.heap.size, 2, none⟩ = some (.string x1.text) := f1W1 2 _ rfl; have pa3 : W1.cell? ⟨c3.heap.size, 3, none⟩ = some (.slice x1.A x1.n x1.c) := f1W1 3 _ rfl; clear hWW1 f1W1)
  replace Hx1 := Lib.hid (Hx1.out.on hbW1)
  replace hT := hT.trans (hbW1.mono (by omega))
  clear hbW1
  go_wp2_with fail
  refine (num_any 0 _).mono ?_
  rintro r c4 ⟨rfl, h4⟩
  replace Hx1 := Lib.hid (Hx1.out.on h4)
  replace pa0 := (h4.cell (p := ⟨_, _, none⟩) (by (try dsimp only) <;> omega)).trans pa0
  replace pa1 := (h4.cell (p := ⟨_, _, none⟩) (by (try dsimp only) <;> omega)).trans pa1
  replace pa2 := (h4.cell (p := ⟨_, _, none⟩) (by (try dsimp only) <;> omega)).trans pa2
  replace pa3 := (h4.cell (p := ⟨_, _, none⟩) (by (try dsimp only) <;> omega)).trans pa3
  have z4 := h4.size
  replace hT := hT.trans (h4.mono (by omega))
  clear h4
  try unfold It.val
  go_wp2_with fail
  refine (num_any 7 _).mono ?_
  rintro r c5 ⟨rfl, h5⟩
  replace Hx1 := Lib.hid (Hx1.out.on h5)
  replace pa0 := (h5.cell (p := ⟨_, _, none⟩) (by (try dsimp only) <;> omega)).trans pa0
  replace pa1 := (h5.cell (p := ⟨_, _, none⟩) (by (try dsimp only) <;> omega)).trans pa1
  replace pa2 := (h5.cell (p := ⟨_, _, none⟩) (by (try dsimp only) <;> omega)).trans pa2
  replace pa3 := (h5.cell (p := ⟨_, _, none⟩) (by (try dsimp only) <;> omega)).trans pa3
  have z5 := h5.size
  replace hT := hT.trans (h5.mono (by omega))
  clear h5
  try unfold It.val
  go_wp2_with fail
  refine (num_any 2 _).mono ?_
  rintro r c6 ⟨rfl, h6⟩
  replace Hx1 := Lib.hid (Hx1.out.on h6)
  replace pa0 := (h6.cell (p := ⟨_, _, none⟩) (by (try dsimp only) <;> omega)).trans pa0
  replace pa1 := (h6.cell (p := ⟨_, _, none⟩) (by (try dsimp only) <;> omega)).trans pa1
  replace pa2 := (h6.cell (p := ⟨_, _, none⟩) (by (try dsimp only) <;> omega)).trans pa2
  replace pa3 := (h6.cell (p := ⟨_, _, none⟩) (by (try dsimp only) <;> omega)).trans pa3
  have z6 := h6.size
  replace hT := hT.trans (h6.mono (by omega))
  clear h6
  try unfold It.val
  go_wp2_with fail
  refine (two_any 14 (Lf 1 7 ⟨#[]⟩) (Lf 1 2 ⟨#[]⟩) ⟨1, 7, ⟨#[]⟩, none, 0, 0⟩ ⟨1, 2, ⟨#[]⟩, none, 0, 0⟩ _ (Rp.leaf _ _ _ _) (Rp.leaf _ _ _ _)).mono ?_
  rintro r c7 ⟨x2, rfl, h7, hx⟩
  replace Hx1 := Lib.hid (Hx1.out.on h7)
  replace pa0 := (h7.cell (p := ⟨_, _, none⟩) (by (try dsimp only) <;> omega)).trans pa0
  replace pa1 := (h7.cell (p := ⟨_, _, none⟩) (by (try dsimp only) <;> omega)).trans pa1
  replace pa2 := (h7.cell (p := ⟨_, _, none⟩) (by (try dsimp only) <;> omega)).trans pa2
  replace pa3 := (h7.cell (p := ⟨_, _, none⟩) (by (try dsimp only) <;> omega)).trans pa3
  have z7 := h7.size
  replace hT := hT.trans (h7.mono (by omega))
  have Hx2 := Lib.hid hx
  clear hx
  clear h7
  try unfold It.val
  go_wp2_with fail
  refine (two_any 12 (Lf 1 0 ⟨#[]⟩) (Tw 14 (Lf 1 7 ⟨#[]⟩) (Lf 1 2 ⟨#[]⟩)) ⟨1, 0, ⟨#[]⟩, none, 0, 0⟩ x2 _ (Rp.leaf _ _ _ _) Hx2.out).mono ?_
  rintro r c8 ⟨x3, rfl, h8, hx⟩
  replace Hx1 := Lib.hid (Hx1.out.on h8)
  replace Hx2 := Lib.hid (Hx2.out.on h8)
  replace pa0 := (h8.cell (p := ⟨_, _, none⟩) (by (try dsimp only) <;> omega)).trans pa0
  replace pa1 := (h8.cell (p := ⟨_, _, none⟩) (by (try dsimp only) <;> omega)).trans pa1
  replace pa2 := (h8.cell (p := ⟨_, _, none⟩) (by (try dsimp only) <;> omega)).trans pa2
  replace pa3 := (h8.cell (p := ⟨_, _, none⟩) (by (try dsimp only) <;> omega)).trans pa3
  have z8 := h8.size
  replace hT := hT.trans (h8.mono (by omega))
  have Hx3 := Lib.hid hx
  clear hx
  clear h8
  try unfold It.val
  go_wp2_with fail
  refine (Number_top v0 _ x3 _ Hx3.out).mono ?_
  rintro r c9 ⟨rfl, h9⟩
  replace Hx1 := Lib.hid (Hx1.out.on h9)
  replace Hx2 := Lib.hid (Hx2.out.on h9)
  replace Hx3 := Lib.hid (Hx3.out.on h9)
  replace pa0 := (h9.cell (p := ⟨_, _, none⟩) (by (try dsimp only) <;> omega)).trans pa0
  replace pa1 := (h9.cell (p := ⟨_, _, none⟩) (by (try dsimp only) <;> omega)).trans pa1
  replace pa2 := (h9.cell (p := ⟨_, _, none⟩) (by (try dsimp only) <;> omega)).trans pa2
  replace pa3 := (h9.cell (p := ⟨_, _, none⟩) (by (try dsimp only) <;> omega)).trans pa3
  have z9 := h9.size
  replace hT := hT.trans (h9.mono (by omega))
  clear h9
  try unfold It.val
  rw [HL.out]
  unfold optV
  go_wp2_with fail
  clear Hx2
  clear Hx3
  have hp0 : c3.heap.size < c9.heap.size := by omega
  ((with_reducible refine region_trees ([(27, Tw 15 (Tw 12 (Lf 1 0 ⟨#[]⟩) (Lf 1 7 ⟨#[]⟩)) (Lf 1 2 ⟨#[]⟩))]) ?_ ?_ ?_ ?_ ?_); kernel_rfl; kernel_rfl; rfl; rfl; intro hnonemp hcr; (repeat (first | (refine mix_plain rfl rfl rfl ?_; (first | go_big_quiet_skip | (go_big_quiet_want; go_big_quiet_op; go_big_quiet_on)); refine wpQuiet_nil ?_) | (refine call_skip rfl rfl (by simp only [Act.put, List.setIfInBounds_toArray, List.set_cons_succ, List.set_cons_zero]; rfl) ?_) | (refine call_one (.agg #[.int .i64 1, .int .i64 2, .string ⟨#[]⟩, .slice none 0 0]) Try.func23 (by kernel_rfl) rfl rfl rfl rfl (by simp only [Act.put, List.setIfInBounds_toArray, List.set_cons_succ, List.set_cons_zero]; rfl) (fun z vals hv => ?_) ?_; (exact ⟨_, (by first | (simp [ev, Act.eval] <;> rfl) | (simp [ev, Act.eval, It.val]; done)), num_any 2 z.w⟩)) | (refine call_tree 27 (Tw 15 (Tw 12 (Lf 1 0 ⟨#[]⟩) (Lf 1 7 ⟨#[]⟩)) (Lf 1 2 ⟨#[]⟩)) rfl Try.func19 (by kernel_rfl) rfl rfl rfl rfl (by simp only [Act.put, List.setIfInBounds_toArray, List.set_cons_succ, List.set_cons_zero]; rfl) (fun z vals hv => ?_) ?_; (exact ⟨_, (by first | (simp [ev, Act.eval] <;> rfl) | (simp [ev, Act.eval, It.val]; done)), two_any 15 _ _ x1 ⟨1, 2, ⟨#[]⟩, none, 0, 0⟩ z.w (Hx1.out.on z.h) (Rp.leaf _ _ _ _)⟩)) | (refine call_one (.tuple #[.int .i64 (-1), .bool true]) Try.func12 (by kernel_rfl) rfl rfl rfl rfl (by simp only [Act.put, List.setIfInBounds_toArray, List.set_cons_succ, List.set_cons_zero]; rfl) (fun z vals hv => ?_) ?_; (obtain ⟨y1, e1, r1⟩ := hv 27 _ rfl (by simp); have hc := Number_top v0 _ y1 z.w r1; rw [HM.out] at hc; exact ⟨_, (by first | (simp [ev, Act.eval, e1] <;> rfl) | (simp [ev, Act.eval, It.val, e1]; done)), hc⟩)))); intro wq vals hgq; simp only [over, Nt, List.map_cons, List.map_nil, List.foldl_cons, List.foldl_nil, Act.put, List.setIfInBounds_toArray, List.set_cons_succ, List.set_cons_zero]; clear hcr)
  clear hp0
  replace Hx1 := Lib.hid (Hx1.out.on hgq)
  replace pa0 := (hgq.cell (p := ⟨_, _, none⟩) (by (try dsimp only) <;> omega)).trans pa0
  replace pa1 := (hgq.cell (p := ⟨_, _, none⟩) (by (try dsimp only) <;> omega)).trans pa1
  replace pa2 := (hgq.cell (p := ⟨_, _, none⟩) (by (try dsimp only) <;> omega)).trans pa2
  replace pa3 := (hgq.cell (p := ⟨_, _, none⟩) (by (try dsimp only) <;> omega)).trans pa3
  have z10 := hgq.size
  replace hT := hT.trans (hgq.mono (by omega))
  clear hgq
  try clear vals
  obtain ⟨c10, rfl⟩ : ∃ c10, c10 = wq := ⟨_, rfl⟩
  go_wp2_with fail
  clear Hx1
  clear pa0 pa1 pa2 pa3
  refine (num_any 1 _).mono ?_
  rintro r c11 ⟨rfl, h11⟩
  have z11 := h11.size
  replace hT := hT.trans (h11.mono (by omega))
  clear h11
  try unfold It.val
  go_wp2_with fail
  refine (name_any nUnits _).mono ?_
  rintro r c12 ⟨rfl, h12⟩
  have z12 := h12.size
  replace hT := hT.trans (h12.mono (by omega))
  clear h12
  try unfold It.val
  go_wp2_with fail
  refine (name_any nTotal _).mono ?_
  rintro r c13 ⟨rfl, h13⟩
  have z13 := h13.size
  replace hT := hT.trans (h13.mono (by omega))
  clear h13
  try unfold It.val
  go_wp2_with fail
  refine (two_any 14 (Lf 3 0 nUnits) (Lf 3 0 nTotal) ⟨3, 0, nUnits, none, 0, 0⟩ ⟨3, 0, nTotal, none, 0, 0⟩ _ (Rp.leaf _ _ _ _) (Rp.leaf _ _ _ _)).mono ?_
  rintro r c14 ⟨x4, rfl, h14, hx⟩
  have z14 := h14.size
  replace hT := hT.trans (h14.mono (by omega))
  have Hx4 := Lib.hid hx
  clear hx
  clear h14
  try unfold It.val
  go_wp2_with fail
  refine (two_any 9 (Lf 1 1 ⟨#[]⟩) (Tw 14 (Lf 3 0 nUnits) (Lf 3 0 nTotal)) ⟨1, 1, ⟨#[]⟩, none, 0, 0⟩ x4 _ (Rp.leaf _ _ _ _) Hx4.out).mono ?_
  rintro r c15 ⟨x5, rfl, h15, hx⟩
  replace Hx4 := Lib.hid (Hx4.out.on h15)
  have z15 := h15.size
  replace hT := hT.trans (h15.mono (by omega))
  have Hx5 := Lib.hid hx
  clear hx
  clear h15
  try unfold It.val
  go_wp2_with fail
  clear Hx4
  (obtain ⟨W2, hWW2, hbW2, hzW2, f1W2, qfa⟩ := box1 c15 #[.int .i64 x5.op, .int .i64 x5.num, .string x5.text, .slice x5.A x5.n x5.c] 24; rw [← hWW2]; have qa0 : W2.cell? ⟨c15.heap.size, 0, none⟩ = some (.int .i64 x5.op) := f1W2 0 _ rfl; have qa1 : W2.cell? ⟨c15.heap.size, 1, none⟩ = some (.int .i64 x5.num) := f1W2 1 _ rfl; have qa2 : W2.cell? ⟨c15.heap.size, 2, none⟩ = some (.string x5.text) := f1W2 2 _ rfl; have qa3 : W2.cell? ⟨c15.heap.size, 3, none⟩ = some (.slice x5.A x5.n x5.c) := f1W2 3 _ rfl; clear hWW2 f1W2)
  replace Hx5 := Lib.hid (Hx5.out.on hbW2)
  replace hT := hT.trans (hbW2.mono (by omega))
  clear hbW2
  go_wp2_with fail
  refine (name_any nZone _).mono ?_
  rintro r c16 ⟨rfl, h16⟩
  replace Hx5 := Lib.hid (Hx5.out.on h16)
  replace qa0 := (h16.cell (p := ⟨_, _, none⟩) (by (try dsimp only) <;> omega)).trans qa0
  replace qa1 := (h16.cell (p := ⟨_, _, none⟩) (by (try dsimp only) <;> omega)).trans qa1
  replace qa2 := (h16.cell (p := ⟨_, _, none⟩) (by (try dsimp only) <;> omega)).trans qa2
  replace qa3 := (h16.cell (p := ⟨_, _, none⟩) (by (try dsimp only) <;> omega)).trans qa3
  have z16 := h16.size
  replace hT := hT.trans (h16.mono (by omega))
  clear h16
  try unfold It.val
  go_wp2_with fail
  refine (two_any 7 (Lf 3 0 nZone) (Lf 2 0 ⟨#[104, 111, 109, 101]⟩) ⟨3, 0, nZone, none, 0, 0⟩ ⟨2, 0, ⟨#[104, 111, 109, 101]⟩, none, 0, 0⟩ _ (Rp.leaf _ _ _ _) (Rp.leaf _ _ _ _)).mono ?_
  rintro r c17 ⟨x6, rfl, h17, hx⟩
  replace Hx5 := Lib.hid (Hx5.out.on h17)
  replace qa0 := (h17.cell (p := ⟨_, _, none⟩) (by (try dsimp only) <;> omega)).trans qa0
  replace qa1 := (h17.cell (p := ⟨_, _, none⟩) (by (try dsimp only) <;> omega)).trans qa1
  replace qa2 := (h17.cell (p := ⟨_, _, none⟩) (by (try dsimp only) <;> omega)).trans qa2
  replace qa3 := (h17.cell (p := ⟨_, _, none⟩) (by (try dsimp only) <;> omega)).trans qa3
  have z17 := h17.size
  replace hT := hT.trans (h17.mono (by omega))
  have Hx6 := Lib.hid hx
  clear hx
  clear h17
  try unfold It.val
  go_wp2_with fail
  (obtain ⟨W4, hWW4, hbW4, hzW4, f1W4, f2W4, tfa, tfb⟩ := box2 c17 #[.int .i64 x6.op, .int .i64 x6.num, .string x6.text, .slice x6.A x6.n x6.c] 24 #[.int .i64 0, .int .i64 60, .int .i64 0, .int .i64 0, .int .i64 0, .int .i64 0, .string ⟨#[104, 111, 109, 101]⟩, .string ⟨#[]⟩, .bool false] 26; rw [← hWW4]; have ta0 : W4.cell? ⟨c17.heap.size, 0, none⟩ = some (.int .i64 x6.op) := f1W4 0 _ rfl; have ta1 : W4.cell? ⟨c17.heap.size, 1, none⟩ = some (.int .i64 x6.num) := f1W4 1 _ rfl; have ta2 : W4.cell? ⟨c17.heap.size, 2, none⟩ = some (.string x6.text) := f1W4 2 _ rfl; have ta3 : W4.cell? ⟨c17.heap.size, 3, none⟩ = some (.slice x6.A x6.n x6.c) := f1W4 3 _ rfl; have tb0 : W4.cell? ⟨c17.heap.size + 1, 0, none⟩ = some (.int .i64 0) := f2W4 0 _ rfl; have tb1 : W4.cell? ⟨c17.heap.size + 1, 1, none⟩ = some (.int .i64 60) := f2W4 1 _ rfl; have tb2 : W4.cell? ⟨c17.heap.size + 1, 2, none⟩ = some (.int .i64 0) := f2W4 2 _ rfl; have tb3 : W4.cell? ⟨c17.heap.size + 1, 3, none⟩ = some (.int .i64 0) := f2W4 3 _ rfl; have tb4 : W4.cell? ⟨c17.heap.size + 1, 4, none⟩ = some (.int .i64 0) := f2W4 4 _ rfl; have tb5 : W4.cell? ⟨c17.heap.size + 1, 5, none⟩ = some (.int .i64 0) := f2W4 5 _ rfl; have tb6 : W4.cell? ⟨c17.heap.size + 1, 6, none⟩ = some (.string ⟨#[104, 111, 109, 101]⟩) := f2W4 6 _ rfl; have tb7 : W4.cell? ⟨c17.heap.size + 1, 7, none⟩ = some (.string ⟨#[]⟩) := f2W4 7 _ rfl; have tb8 : W4.cell? ⟨c17.heap.size + 1, 8, none⟩ = some (.bool false) := f2W4 8 _ rfl; clear hWW4 f1W4 f2W4)
  replace Hx5 := Lib.hid (Hx5.out.on hbW4)
  replace Hx6 := Lib.hid (Hx6.out.on hbW4)
  replace qa0 := (hbW4.cell (p := ⟨_, _, none⟩) (by (try dsimp only) <;> omega)).trans qa0
  replace qa1 := (hbW4.cell (p := ⟨_, _, none⟩) (by (try dsimp only) <;> omega)).trans qa1
  replace qa2 := (hbW4.cell (p := ⟨_, _, none⟩) (by (try dsimp only) <;> omega)).trans qa2
  replace qa3 := (hbW4.cell (p := ⟨_, _, none⟩) (by (try dsimp only) <;> omega)).trans qa3
  replace hT := hT.trans (hbW4.mono (by omega))
  clear hbW4
  go_wp2_with fail
  have hp0 : c15.heap.size < W4.heap.size := by omega
  have hp1 : c17.heap.size < W4.heap.size := by omega
  have hp2 : c17.heap.size + 1 < W4.heap.size := by omega
  ((with_reducible refine region_trees ([]) ?_ ?_ ?_ ?_ ?_); kernel_rfl; kernel_rfl; rfl; rfl; intro hnonemp hcr; (repeat (first | (refine mix_plain rfl rfl rfl ?_; (first | go_big_quiet_skip | (go_big_quiet_want; go_big_quiet_op; go_big_quiet_on)); refine wpQuiet_nil ?_) | (refine call_skip rfl rfl (by simp only [Act.put, List.setIfInBounds_toArray, List.set_cons_succ, List.set_cons_zero]; rfl) ?_) | (refine call_one (.agg #[.int .i64 3, .int .i64 0, .string nZone, .slice none 0 0]) Try.func18 (by kernel_rfl) rfl rfl rfl rfl (by simp only [Act.put, List.setIfInBounds_toArray, List.set_cons_succ, List.set_cons_zero]; rfl) (fun z vals hv => ?_) ?_; (exact ⟨_, (by first | (simp [ev, Act.eval] <;> rfl) | (simp [ev, Act.eval, It.val]; done)), name_any nZone z.w⟩)) | (refine call_one (.tuple #[.string ⟨#[104, 111, 109, 101]⟩, .bool true]) Try.func14 (by kernel_rfl) rfl rfl rfl rfl (by simp only [Act.put, List.setIfInBounds_toArray, List.set_cons_succ, List.set_cons_zero]; rfl) (fun z vals hv => ?_) ?_; (have hc := Text_top v1 (Lf 3 0 nZone) ⟨3, 0, nZone, none, 0, 0⟩ z.w (Rp.leaf _ _ _ _); rw [HX.out] at hc; exact ⟨_, (by first | (simp [ev, Act.eval, Env.val, v1] <;> rfl) | (simp [ev, Act.eval, It.val, Env.val, v1]; done)), hc⟩)))); intro wq vals hgq; simp only [over, Nt, List.map_cons, List.map_nil, List.foldl_cons, List.foldl_nil, Act.put, List.setIfInBounds_toArray, List.set_cons_succ, List.set_cons_zero]; clear hcr)
  clear hp0
  clear hp1
  clear hp2
  replace Hx5 := Lib.hid (Hx5.out.on hgq)
  replace Hx6 := Lib.hid (Hx6.out.on hgq)
  replace qa0 := (hgq.cell (p := ⟨_, _, none⟩) (by (try dsimp only) <;> omega)).trans qa0
  replace qa1 := (hgq.cell (p := ⟨_, _, none⟩) (by (try dsimp only) <;> omega)).trans qa1
  replace qa2 := (hgq.cell (p := ⟨_, _, none⟩) (by (try dsimp only) <;> omega)).trans qa2
  replace qa3 := (hgq.cell (p := ⟨_, _, none⟩) (by (try dsimp only) <;> omega)).trans qa3
  replace ta0 := (hgq.cell (p := ⟨_, _, none⟩) (by (try dsimp only) <;> omega)).trans ta0
  replace ta1 := (hgq.cell (p := ⟨_, _, none⟩) (by (try dsimp only) <;> omega)).trans ta1
  replace ta2 := (hgq.cell (p := ⟨_, _, none⟩) (by (try dsimp only) <;> omega)).trans ta2
  replace ta3 := (hgq.cell (p := ⟨_, _, none⟩) (by (try dsimp only) <;> omega)).trans ta3
  replace tb0 := (hgq.cell (p := ⟨_, _, none⟩) (by (try dsimp only) <;> omega)).trans tb0
  replace tb1 := (hgq.cell (p := ⟨_, _, none⟩) (by (try dsimp only) <;> omega)).trans tb1
  replace tb2 := (hgq.cell (p := ⟨_, _, none⟩) (by (try dsimp only) <;> omega)).trans tb2
  replace tb3 := (hgq.cell (p := ⟨_, _, none⟩) (by (try dsimp only) <;> omega)).trans tb3
  replace tb4 := (hgq.cell (p := ⟨_, _, none⟩) (by (try dsimp only) <;> omega)).trans tb4
  replace tb5 := (hgq.cell (p := ⟨_, _, none⟩) (by (try dsimp only) <;> omega)).trans tb5
  replace tb6 := (hgq.cell (p := ⟨_, _, none⟩) (by (try dsimp only) <;> omega)).trans tb6
  replace tb7 := (hgq.cell (p := ⟨_, _, none⟩) (by (try dsimp only) <;> omega)).trans tb7
  replace tb8 := (hgq.cell (p := ⟨_, _, none⟩) (by (try dsimp only) <;> omega)).trans tb8
  have z18 := hgq.size
  replace hT := hT.trans (hgq.mono (by omega))
  clear hgq
  try clear vals
  obtain ⟨c18, rfl⟩ : ∃ c18, c18 = wq := ⟨_, rfl⟩
  go_wp2_with fail
  have hp0 : c15.heap.size < c18.heap.size := by omega
  have hp1 : c17.heap.size < c18.heap.size := by omega
  have hp2 : c17.heap.size + 1 < c18.heap.size := by omega
  ((with_reducible refine region_trees ([(67, .mk 4 0 ⟨#[]⟩ [(Tw 9 (Lf 1 1 ⟨#[]⟩) (Tw 14 (Lf 3 0 nUnits) (Lf 3 0 nTotal)))]), (75, Tw 10 (Lf 3 0 nUnits) (Lf 1 60 ⟨#[]⟩)), (76, Tw 5 (Tw 7 (Lf 3 0 nZone) (Lf 2 0 ⟨#[104, 111, 109, 101]⟩)) (Tw 10 (Lf 3 0 nUnits) (Lf 1 60 ⟨#[]⟩)))]) ?_ ?_ ?_ ?_ ?_); kernel_rfl; kernel_rfl; rfl; rfl; intro hnonemp hcr; (repeat (first | (refine mix_plain rfl rfl rfl ?_; (first | go_big_quiet_skip | (go_big_quiet_want; go_big_quiet_op; go_big_quiet_on)); refine wpQuiet_nil ?_) | (refine call_skip rfl rfl (by simp only [Act.put, List.setIfInBounds_toArray, List.set_cons_succ, List.set_cons_zero]; rfl) ?_) | (refine call_one (.agg #[.int .i64 3, .int .i64 0, .string nUnits, .slice none 0 0]) Try.func18 (by kernel_rfl) rfl rfl rfl rfl (by simp only [Act.put, List.setIfInBounds_toArray, List.set_cons_succ, List.set_cons_zero]; rfl) (fun z vals hv => ?_) ?_; (exact ⟨_, (by first | (simp [ev, Act.eval] <;> rfl) | (simp [ev, Act.eval, It.val]; done)), name_any nUnits z.w⟩)) | (refine call_one (.agg #[.int .i64 1, .int .i64 60, .string ⟨#[]⟩, .slice none 0 0]) Try.func23 (by kernel_rfl) rfl rfl rfl rfl (by simp only [Act.put, List.setIfInBounds_toArray, List.set_cons_succ, List.set_cons_zero]; rfl) (fun z vals hv => ?_) ?_; (exact ⟨_, (by first | (simp [ev, Act.eval] <;> rfl) | (simp [ev, Act.eval, It.val]; done)), num_any 60 z.w⟩)) | (refine call_tree 75 (Tw 10 (Lf 3 0 nUnits) (Lf 1 60 ⟨#[]⟩)) rfl Try.func19 (by kernel_rfl) rfl rfl rfl rfl (by simp only [Act.put, List.setIfInBounds_toArray, List.set_cons_succ, List.set_cons_zero]; rfl) (fun z vals hv => ?_) ?_; (exact ⟨_, (by first | (simp [ev, Act.eval] <;> rfl) | (simp [ev, Act.eval, It.val]; done)), two_any 10 _ _ ⟨3, 0, nUnits, none, 0, 0⟩ ⟨1, 60, ⟨#[]⟩, none, 0, 0⟩ z.w (Rp.leaf _ _ _ _) (Rp.leaf _ _ _ _)⟩)) | (refine call_tree 76 (Tw 5 (Tw 7 (Lf 3 0 nZone) (Lf 2 0 ⟨#[104, 111, 109, 101]⟩)) (Tw 10 (Lf 3 0 nUnits) (Lf 1 60 ⟨#[]⟩))) rfl Try.func19 (by kernel_rfl) rfl rfl rfl rfl (by simp only [Act.put, List.setIfInBounds_toArray, List.set_cons_succ, List.set_cons_zero]; rfl) (fun z vals hv => ?_) ?_; (obtain ⟨y1, e1, r1⟩ := hv 75 _ rfl (by simp); exact ⟨_, (by first | (simp [ev, Act.eval, e1] <;> rfl) | (simp [ev, Act.eval, It.val, e1]; done)), two_any 5 _ _ x6 y1 z.w (Hx6.out.on z.h) r1⟩)) | (refine call_tree 67 (.mk 4 0 ⟨#[]⟩ [(Tw 9 (Lf 1 1 ⟨#[]⟩) (Tw 14 (Lf 3 0 nUnits) (Lf 3 0 nTotal)))]) rfl Try.func21 (by kernel_rfl) rfl rfl rfl rfl (by simp only [Act.put, List.setIfInBounds_toArray, List.set_cons_succ, List.set_cons_zero]; rfl) (fun z vals hv => ?_) ?_; (exact ⟨_, (by first | (simp [ev, Act.eval] <;> rfl) | (simp [ev, Act.eval, It.val]; done)), not_any _ x5 z.w (Hx5.out.on z.h)⟩)) | (refine call_at 62 rfl ?_; (refine call_one (.bool false) Try.func16 (by kernel_rfl) rfl rfl rfl rfl (by simp only [Act.put, List.setIfInBounds_toArray, List.set_cons_succ, List.set_cons_zero]; rfl) (fun z vals hv => ?_) ?_; (have hc := Holds_top v1 _ x5 z.w (Hx5.out.on z.h); rw [HF1.out] at hc; exact ⟨_, (by first | (simp [ev, Act.eval, Env.val, v1] <;> rfl) | (simp [ev, Act.eval, It.val, Env.val, v1]; done)), hc⟩))) | (refine call_at 69 rfl ?_; (refine call_one (.bool true) Try.func16 (by kernel_rfl) rfl rfl rfl rfl (by simp only [Act.put, List.setIfInBounds_toArray, List.set_cons_succ, List.set_cons_zero]; rfl) (fun z vals hv => ?_) ?_; (obtain ⟨y1, e1, r1⟩ := hv 67 _ rfl (by simp); have hc := Holds_top v1 _ y1 z.w r1; rw [HF2.out] at hc; exact ⟨_, (by first | (simp [ev, Act.eval, e1, Env.val, v1] <;> rfl) | (simp [ev, Act.eval, It.val, e1, Env.val, v1]; done)), hc⟩))) | (refine call_at 78 rfl ?_; (refine call_one (.bool true) Try.func16 (by kernel_rfl) rfl rfl rfl rfl (by simp only [Act.put, List.setIfInBounds_toArray, List.set_cons_succ, List.set_cons_zero]; rfl) (fun z vals hv => ?_) ?_; (obtain ⟨y1, e1, r1⟩ := hv 76 _ rfl (by simp); have hc := Holds_top v1 _ y1 z.w r1; rw [HF3.out] at hc; exact ⟨_, (by first | (simp [ev, Act.eval, e1, Env.val, v1] <;> rfl) | (simp [ev, Act.eval, It.val, e1, Env.val, v1]; done)), hc⟩))))); intro wq vals hgq; simp only [over, Nt, List.map_cons, List.map_nil, List.foldl_cons, List.foldl_nil, Act.put, List.setIfInBounds_toArray, List.set_cons_succ, List.set_cons_zero]; clear hcr)
  clear hp0
  clear hp1
  clear hp2
  replace Hx5 := Lib.hid (Hx5.out.on hgq)
  replace Hx6 := Lib.hid (Hx6.out.on hgq)
  replace qa0 := (hgq.cell (p := ⟨_, _, none⟩) (by (try dsimp only) <;> omega)).trans qa0
  replace qa1 := (hgq.cell (p := ⟨_, _, none⟩) (by (try dsimp only) <;> omega)).trans qa1
  replace qa2 := (hgq.cell (p := ⟨_, _, none⟩) (by (try dsimp only) <;> omega)).trans qa2
  replace qa3 := (hgq.cell (p := ⟨_, _, none⟩) (by (try dsimp only) <;> omega)).trans qa3
  replace ta0 := (hgq.cell (p := ⟨_, _, none⟩) (by (try dsimp only) <;> omega)).trans ta0
  replace ta1 := (hgq.cell (p := ⟨_, _, none⟩) (by (try dsimp only) <;> omega)).trans ta1
  replace ta2 := (hgq.cell (p := ⟨_, _, none⟩) (by (try dsimp only) <;> omega)).trans ta2
  replace ta3 := (hgq.cell (p := ⟨_, _, none⟩) (by (try dsimp only) <;> omega)).trans ta3
  replace tb0 := (hgq.cell (p := ⟨_, _, none⟩) (by (try dsimp only) <;> omega)).trans tb0
  replace tb1 := (hgq.cell (p := ⟨_, _, none⟩) (by (try dsimp only) <;> omega)).trans tb1
  replace tb2 := (hgq.cell (p := ⟨_, _, none⟩) (by (try dsimp only) <;> omega)).trans tb2
  replace tb3 := (hgq.cell (p := ⟨_, _, none⟩) (by (try dsimp only) <;> omega)).trans tb3
  replace tb4 := (hgq.cell (p := ⟨_, _, none⟩) (by (try dsimp only) <;> omega)).trans tb4
  replace tb5 := (hgq.cell (p := ⟨_, _, none⟩) (by (try dsimp only) <;> omega)).trans tb5
  replace tb6 := (hgq.cell (p := ⟨_, _, none⟩) (by (try dsimp only) <;> omega)).trans tb6
  replace tb7 := (hgq.cell (p := ⟨_, _, none⟩) (by (try dsimp only) <;> omega)).trans tb7
  replace tb8 := (hgq.cell (p := ⟨_, _, none⟩) (by (try dsimp only) <;> omega)).trans tb8
  have z19 := hgq.size
  replace hT := hT.trans (hgq.mono (by omega))
  clear hgq
  try clear vals
  obtain ⟨c19, rfl⟩ : ∃ c19, c19 = wq := ⟨_, rfl⟩
  go_wp2_with fail
  go_ret
  exact ⟨ret_bool rfl, hT⟩

end Xp
end Go.Proofs.Ytigfkbomeimobaa
