/-
  Disputes: law Decides. No condition.
-/
import Derived.Test.YthidlakkpdbeaaaDpM
import Derived.BigQuiet
import Derived.StillTailTactics
import Derived.Lib.Overlaps
import Derived.Deep.DeepCutAuto
import Derived.Deep.RegionWith
import Derived.Laws.Rows
set_option maxRecDepth 100000
set_option linter.unusedVariables false
set_option linter.unusedSimpArgs false
namespace Go.Proofs.Ythidlakkpdbeaaa
open Go.RowKit

namespace Dp
def decV (x cr t : Int) : Value := .agg #[.int .i64 x, .int .i64 cr, .int .i64 t]
set_option maxHeartbeats 8000000 in
theorem law_decides (x cr t : Int) (A : Option Addr) (n c : Nat) (ds : List Dsp) (w : World) (h : Sl w A n c ds) (hA : NilOk A c) :
    Calls Try.prog 6 #[.slice A n c, decV x cr t] w fun r w' => r = .returned (.bool true) ∧ Below w.heap.size w w' := by
  have H := Lib.hid h
  have HA := Lib.hid hA
  clear h hA
  unfold decV
  go_enter Try.func6, Try.ntmps6
  go_upto_region 1 with (fail)
  (obtain ⟨W, hWW, hbW, hzW, f1W, qfa⟩ := box1 w #[.int .i64 x, .int .i64 cr, .int .i64 t] 46; rw [← hWW]; have qa0 : W.cell? ⟨w.heap.size, 0, none⟩ = some (.int .i64 x) := f1W 0 _ rfl; have qa1 : W.cell? ⟨w.heap.size, 1, none⟩ = some (.int .i64 cr) := f1W 1 _ rfl; have qa2 : W.cell? ⟨w.heap.size, 2, none⟩ = some (.int .i64 t) := f1W 2 _ rfl; clear hWW f1W)
  have hT := hbW
  have hg0 : w.heap.size < W.heap.size := hzW
  replace H := Lib.hid (H.out.below hbW)
  clear hbW
  go_wp2_with fail
  refine (few_any A n c ds _ H.out).mono ?_
  rintro r w1 ⟨b, rfl, hb, hb1⟩
  (have hzhb1 := hb1.size; replace qa0 := (hb1.cell (p := ⟨_, _, none⟩) (by (try dsimp only) <;> omega)).trans qa0; replace qa1 := (hb1.cell (p := ⟨_, _, none⟩) (by (try dsimp only) <;> omega)).trans qa1; replace qa2 := (hb1.cell (p := ⟨_, _, none⟩) (by (try dsimp only) <;> omega)).trans qa2; replace hT := Below.trans hT (Below.mono hb1 (by omega)))
  replace H := Lib.hid (H.out.below hb1)
  have hg1 : w.heap.size < w1.heap.size := by omega
  have HB := Lib.hid hb
  clear hb1 hb
  cases b
  · go_wp2_with fail
    refine (alive_any _).mono ?_
    rintro r wz ⟨rfl, hbz⟩
    replace hT := hT.trans (hbz.mono (by omega))
    go_wp2_with fail
    go_ret
    exact ⟨rfl, hT⟩
  · obtain ⟨hn30, hvd⟩ := HB.out rfl
    have HV := Lib.hid hvd
    clear hvd HB
    obtain ⟨R, hR⟩ : ∃ R, decP ds x 2 cr t = R := ⟨_, rfl⟩
    have HR := Lib.hid hR
    obtain ⟨R2, hR2⟩ : ∃ R2, decP ds x 3 0 t = R2 := ⟨_, rfl⟩
    have HR2 := Lib.hid hR2
    clear hR hR2
    obtain ⟨xs, e⟩ := R
    obtain ⟨ys, e2⟩ := R2
    have q : (e == e) = true := by simp
    have q2 : (e2 == e2) = true := by simp
    go_wp2_with fail
    refine (accept_any x cr t A n c ds _ H.out HA.out (by omega) (Vd.srt HV.out)).mono ?_
    rintro r w2 ⟨vv2, rfl, ho2, hb2⟩
    rw [HR.out] at ho2 ⊢
    (have hzhb2 := hb2.size; replace qa0 := (hb2.cell (p := ⟨_, _, none⟩) (by (try dsimp only) <;> omega)).trans qa0; replace qa1 := (hb2.cell (p := ⟨_, _, none⟩) (by (try dsimp only) <;> omega)).trans qa1; replace qa2 := (hb2.cell (p := ⟨_, _, none⟩) (by (try dsimp only) <;> omega)).trans qa2; replace hT := Below.trans hT (Below.mono hb2 (by omega)))
    replace H := Lib.hid (H.out.below hb2)
    have hg2 : w.heap.size < w2.heap.size := by omega
    obtain ⟨A2, c2, rfl, hs2⟩ := ho2.sl
    have HS2 := Lib.hid hs2
    clear hb2 ho2 hs2
    go_wp2_with fail
    refine (refaccept_any x cr t A n c ds _ H.out HA.out (by omega) (Vd.srt HV.out)).mono ?_
    rintro r w3 ⟨vv3, rfl, ho3, hb3⟩
    rw [HR.out] at ho3 ⊢
    (have hzhb3 := hb3.size; replace qa0 := (hb3.cell (p := ⟨_, _, none⟩) (by (try dsimp only) <;> omega)).trans qa0; replace qa1 := (hb3.cell (p := ⟨_, _, none⟩) (by (try dsimp only) <;> omega)).trans qa1; replace qa2 := (hb3.cell (p := ⟨_, _, none⟩) (by (try dsimp only) <;> omega)).trans qa2; replace hT := Below.trans hT (Below.mono hb3 (by omega)))
    replace H := Lib.hid (H.out.below hb3)
    have hg3 : w.heap.size < w3.heap.size := by omega
    replace HS2 := Lib.hid (HS2.out.below hb3)
    obtain ⟨A3, c3, rfl, hs3⟩ := ho3.sl
    have HS3 := Lib.hid hs3
    clear hb3 ho3 hs3
    go_wp2_with fail
    refine (refuse_any x t A n c ds _ H.out HA.out (by omega) (Vd.srt HV.out)).mono ?_
    rintro r w4 ⟨vv4, rfl, ho4, hb4⟩
    rw [HR2.out] at ho4 ⊢
    (have hzhb4 := hb4.size; replace qa0 := (hb4.cell (p := ⟨_, _, none⟩) (by (try dsimp only) <;> omega)).trans qa0; replace qa1 := (hb4.cell (p := ⟨_, _, none⟩) (by (try dsimp only) <;> omega)).trans qa1; replace qa2 := (hb4.cell (p := ⟨_, _, none⟩) (by (try dsimp only) <;> omega)).trans qa2; replace hT := Below.trans hT (Below.mono hb4 (by omega)))
    replace H := Lib.hid (H.out.below hb4)
    have hg4 : w.heap.size < w4.heap.size := by omega
    replace HS2 := Lib.hid (HS2.out.below hb4)
    replace HS3 := Lib.hid (HS3.out.below hb4)
    obtain ⟨A4, c4, rfl, hs4⟩ := ho4.sl
    have HS4 := Lib.hid hs4
    clear hb4 ho4 hs4
    go_wp2_with fail
    refine (refrefuse_any x t A n c ds _ H.out HA.out (by omega) (Vd.srt HV.out)).mono ?_
    rintro r w5 ⟨vv5, rfl, ho5, hb5⟩
    rw [HR2.out] at ho5 ⊢
    (have hzhb5 := hb5.size; replace qa0 := (hb5.cell (p := ⟨_, _, none⟩) (by (try dsimp only) <;> omega)).trans qa0; replace qa1 := (hb5.cell (p := ⟨_, _, none⟩) (by (try dsimp only) <;> omega)).trans qa1; replace qa2 := (hb5.cell (p := ⟨_, _, none⟩) (by (try dsimp only) <;> omega)).trans qa2; replace hT := Below.trans hT (Below.mono hb5 (by omega)))
    replace H := Lib.hid (H.out.below hb5)
    have hg5 : w.heap.size < w5.heap.size := by omega
    replace HS2 := Lib.hid (HS2.out.below hb5)
    replace HS3 := Lib.hid (HS3.out.below hb5)
    replace HS4 := Lib.hid (HS4.out.below hb5)
    obtain ⟨A5, c5, rfl, hs5⟩ := ho5.sl
    have HS5 := Lib.hid hs5
    clear hb5 ho5 hs5
    go_wp2_with fail
    refine (same_any xs A2 A3 xs.length c2 c3 _ HS2.out HS3.out).mono ?_
    rintro r w6 ⟨rfl, hb6⟩
    replace hT := hT.trans (hb6.mono (by omega))
    have hz6 := hb6.size
    replace HS4 := Lib.hid (HS4.out.below hb6)
    replace HS5 := Lib.hid (HS5.out.below hb6)
    clear hb6
    go_wp2_with fail
    refine (same_any ys A4 A5 ys.length c4 c5 _ HS4.out HS5.out).mono ?_
    rintro r w7 ⟨rfl, hb7⟩
    replace hT := hT.trans (hb7.mono (by omega))
    have hz7 := hb7.size
    clear hb7
    go_wp2_with fail
    refine (alive_any _).mono ?_
    rintro r wz ⟨rfl, hbz⟩
    replace hT := hT.trans (hbz.mono (by omega))
    go_wp2_with fail
    go_ret
    exact ⟨rfl, hT⟩
section
open Go.ChangeShapes Go.WideShapes Go.ChangeAt
variable {H : Type} {enc : TypeId × Value → H} {w : World} {base : Nat} {spare : Nat → Bool} {held : Bool}
theorem lst3 {cs : List Value} {a0 a1 a2 : Value} (hl : cs.length = 3) (h0 : cs[0]? = some a0) (h1 : cs[1]? = some a1) (h2 : cs[2]? = some a2) : cs = [a0, a1, a2] := by
  match cs, hl with
  | [_, _, _], _ => cases h0; cases h1; cases h2; rfl
theorem open_dec {v : Value} {d : DataW H} {p : List MemPlace} {r : Reach} {b0 : Nat} (hv : Value.okWide Try.prog w r b0 46 v) (h : DataW.Trod enc Try.prog w base spare held 46 v d p) : ∃ (x cr t : Int), v = decV x cr t := by
  obtain ⟨cs, rfl, hsz⟩ := okWide_struct Try.underlying46 hv
  obtain ⟨fuel, hf⟩ := h
  have hf' : DataW.trod enc Try.prog w base spare held fuel 46 cs.toList = some (d, p) := by simpa [Value.cells] using hf
  have hl : cs.toList.length = 3 := by rw [Array.length_toList, hsz]; kernel_rfl
  obtain ⟨i0, h0, _⟩ := sub_int Try.underlying46 hf' (i := 0) rfl (o := 0) rfl (by kernel_rfl) (by omega) Try.underlying3
  obtain ⟨i1, h1, _⟩ := sub_int Try.underlying46 hf' (i := 1) rfl (o := 1) rfl (by kernel_rfl) (by omega) Try.underlying3
  obtain ⟨i2, h2, _⟩ := sub_int Try.underlying46 hf' (i := 2) rfl (o := 2) rfl (by kernel_rfl) (by omega) Try.underlying3
  exact ⟨i0, i1, i2, congrArg Value.agg (Array.toList_inj.1 (lst3 hl h0 h1 h2))⟩
end
end Dp
end Go.Proofs.Ythidlakkpdbeaaa
