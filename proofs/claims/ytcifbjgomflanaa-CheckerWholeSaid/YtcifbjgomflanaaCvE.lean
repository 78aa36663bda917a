/-
  Tariffs: law Covers. No condition.
-/
import Derived.Test.YtcifbjgomflanaaCvD
import Derived.Test.YtcifbjgomflanaaCkC
import Derived.BigQuiet
import Derived.StillTailTactics
import Derived.Lib.Overlaps
import Derived.Deep.DeepCutAuto
import Derived.Deep.RegionWith
import Derived.Laws.RangeAny
set_option maxRecDepth 100000
set_option linter.unusedVariables false
set_option linter.unusedSimpArgs false
namespace Go.Proofs.Ytcifbjgomflanaa
open Go.RowKit

namespace Cv
open Xp Ck
theorem covered_agg (name : ByteArray) (from_ : Int) (split : Bool) (Az : Option Addr) (nz cz : Nat) (Ab : Option Addr) (nb cb : Nat) (Ar : Option Addr) (nr cr : Nat) (Ad : Option Addr) (nd cd : Nat) (kind : Int) (zs bs : List Nm) (rs : List Rt) (w : World) (hz : Sl w Az nz cz zs) (hb : Sl w Ab nb cb bs) (h : Sl w Ar nr cr rs) :
    Calls Try.prog 19 #[.agg #[.string name, .int .i64 from_, .bool split, .slice Az nz cz, .slice Ab nb cb, .slice Ar nr cr, .slice Ad nd cd], .int .i64 kind] w fun e w' => e = .returned (.bool (covB zs bs rs kind)) ∧ Below w.heap.size w w' :=
  covered_any ⟨name, from_, split, Az, nz, cz, Ab, nb, cb, Ar, nr, cr, Ad, nd, cd⟩ kind zs bs rs w hz hb h
theorem refcovered_agg (name : ByteArray) (from_ : Int) (split : Bool) (Az : Option Addr) (nz cz : Nat) (Ab : Option Addr) (nb cb : Nat) (Ar : Option Addr) (nr cr : Nat) (Ad : Option Addr) (nd cd : Nat) (kind : Int) (zs bs : List Nm) (rs : List Rt) (w : World) (hsm : nz ≤ 1000) (hz : Sl w Az nz cz zs) (hb : Sl w Ab nb cb bs) (h : Sl w Ar nr cr rs) :
    Calls Try.prog 20 #[.agg #[.string name, .int .i64 from_, .bool split, .slice Az nz cz, .slice Ab nb cb, .slice Ar nr cr, .slice Ad nd cd], .int .i64 kind] w fun e w' => e = .returned (.bool (covB zs bs rs kind)) ∧ Below w.heap.size w w' :=
  refcovered_any ⟨name, from_, split, Az, nz, cz, Ab, nb, cb, Ar, nr, cr, Ad, nd, cd⟩ kind zs bs rs w hsm hz hb h
set_option maxHeartbeats 8000000 in
theorem law_covers (t : Tv) (kind : Int) (zs bs : List Nm) (rs : List Rt) (ds : List Dq) (w : World) (h : Tok w t zs bs rs ds) :
    Calls Try.prog 8 #[t.val, .int .i64 kind] w fun e w' => e = .returned (.bool true) ∧ Below w.heap.size w w' := by
  have HT := Lib.hid h
  have HZ := Lib.hid h.z
  have HB := Lib.hid h.b
  have HR := Lib.hid h.r
  clear h
  obtain ⟨name, from_, split, Az, nz, cz, Ab, nb, cb, Ar, nr, cr, Ad, nd, cd⟩ := t
  unfold Tv.val
  dsimp only at HZ HB HR
  go_enter Try.func8, Try.ntmps8
  go_upto_region 1 with (fail)
  (obtain ⟨W, hWW, hbW, hzW, f1W, qfa⟩ := box1 w #[.string name, .int .i64 from_, .bool split, .slice Az nz cz, .slice Ab nb cb, .slice Ar nr cr, .slice Ad nd cd] 39; rw [← hWW]; have qa0 : W.cell? ⟨w.heap.size, 0, none⟩ = some (.string name) := f1W 0 _ rfl; have qa1 : W.cell? ⟨w.heap.size, 1, none⟩ = some (.int .i64 from_) := f1W 1 _ rfl; have qa2 : W.cell? ⟨w.heap.size, 2, none⟩ = some (.bool split) := f1W 2 _ rfl; have qa3 : W.cell? ⟨w.heap.size, 3, none⟩ = some (.slice Az nz cz) := f1W 3 _ rfl; have qa4 : W.cell? ⟨w.heap.size, 4, none⟩ = some (.slice Ab nb cb) := f1W 4 _ rfl; have qa5 : W.cell? ⟨w.heap.size, 5, none⟩ = some (.slice Ar nr cr) := f1W 5 _ rfl; have qa6 : W.cell? ⟨w.heap.size, 6, none⟩ = some (.slice Ad nd cd) := f1W 6 _ rfl; clear hWW f1W)
  go_wp2_with fail
  refine (tsmall_any ⟨name, from_, split, Az, nz, cz, Ab, nb, cb, Ar, nr, cr, Ad, nd, cd⟩ zs bs rs ds _ (HT.out.on hbW)).mono ?_
  rintro r w2 ⟨⟨m, rfl, hm⟩, hb2⟩
  have hbA := hbW.trans (hb2.mono hbW.size)
  have hz2 := hb2.size
  (have hzhb2 := hb2.size; replace qa0 := (hb2.cell (p := ⟨_, _, none⟩) (by (try dsimp only) <;> omega)).trans qa0; replace qa1 := (hb2.cell (p := ⟨_, _, none⟩) (by (try dsimp only) <;> omega)).trans qa1; replace qa2 := (hb2.cell (p := ⟨_, _, none⟩) (by (try dsimp only) <;> omega)).trans qa2; replace qa3 := (hb2.cell (p := ⟨_, _, none⟩) (by (try dsimp only) <;> omega)).trans qa3; replace qa4 := (hb2.cell (p := ⟨_, _, none⟩) (by (try dsimp only) <;> omega)).trans qa4; replace qa5 := (hb2.cell (p := ⟨_, _, none⟩) (by (try dsimp only) <;> omega)).trans qa5; replace qa6 := (hb2.cell (p := ⟨_, _, none⟩) (by (try dsimp only) <;> omega)).trans qa6)
  cases m
  · go_wp2_with fail
    refine (awake_any _).mono ?_
    rintro r w3 ⟨rfl, hb3⟩
    go_wp2_with fail
    go_ret
    exact ⟨rfl, hbA.trans (hb3.mono hbA.size)⟩
  · have HS : Hid (nz ≤ 1000) := Lib.hid (by have := (hm rfl).1; dsimp only at this; omega)
    clear hm hb2 hbW
    obtain ⟨cv, hcv⟩ : ∃ cv, covB zs bs rs kind = cv := ⟨_, rfl⟩
    have HC := Lib.hid hcv
    clear hcv
    have hzW : w.heap.size < w2.heap.size := by omega
    cases cv
    all_goals
      go_upto_region 3 with (fail)
      ((with_reducible refine wp_region_class (Below w2.heap.size w2) ?_ ?_ ?_ ?_); kernel_rfl; kernel_rfl; (exact (Below.refl _ _).drew); (intro hnonemp); (have r0 := fun z : Wd (Below w2.heap.size w2) => (z.h.cell (p := ⟨_, _, none⟩) (by (try dsimp only) <;> omega)).trans qa0; have r1 := fun z : Wd (Below w2.heap.size w2) => (z.h.cell (p := ⟨_, _, none⟩) (by (try dsimp only) <;> omega)).trans qa1; have r2 := fun z : Wd (Below w2.heap.size w2) => (z.h.cell (p := ⟨_, _, none⟩) (by (try dsimp only) <;> omega)).trans qa2; have r3 := fun z : Wd (Below w2.heap.size w2) => (z.h.cell (p := ⟨_, _, none⟩) (by (try dsimp only) <;> omega)).trans qa3; have r4 := fun z : Wd (Below w2.heap.size w2) => (z.h.cell (p := ⟨_, _, none⟩) (by (try dsimp only) <;> omega)).trans qa4; have r5 := fun z : Wd (Below w2.heap.size w2) => (z.h.cell (p := ⟨_, _, none⟩) (by (try dsimp only) <;> omega)).trans qa5; have r6 := fun z : Wd (Below w2.heap.size w2) => (z.h.cell (p := ⟨_, _, none⟩) (by (try dsimp only) <;> omega)).trans qa6); (repeat (any_goals (first | go_big_quiet_step (((first | (go_at_call 19; (with_reducible refine (covered_agg name from_ split Az nz cz Ab nb cb Ar nr cr Ad nd cd kind zs bs rs _ (HZ.out.below (hbA.trans (Below.mono (Wd.h _) hbA.size))) (HB.out.below (hbA.trans (Below.mono (Wd.h _) hbA.size))) (HR.out.below (hbA.trans (Below.mono (Wd.h _) hbA.size)))).mono ?_); rw [HC.out]; rintro e w' ⟨rfl, hbk⟩; exact ⟨rfl, ⟨w', Below.trans (Wd.h _) (hbk.mono (Below.size (Wd.h _)))⟩, rfl⟩) | (go_at_call 20; (with_reducible refine (refcovered_agg name from_ split Az nz cz Ab nb cb Ar nr cr Ad nd cd kind zs bs rs _ HS.out (HZ.out.below (hbA.trans (Below.mono (Wd.h _) hbA.size))) (HB.out.below (hbA.trans (Below.mono (Wd.h _) hbA.size))) (HR.out.below (hbA.trans (Below.mono (Wd.h _) hbA.size)))).mono ?_); rw [HC.out]; rintro e w' ⟨rfl, hbk⟩; exact ⟨rfl, ⟨w', Below.trans (Wd.h _) (hbk.mono (Below.size (Wd.h _)))⟩, rfl⟩) | (go_at_call 11; refine (awake_any _).mono ?_; rintro e w' ⟨rfl, hbk⟩; exact ⟨rfl, ⟨w', Below.trans (Wd.h _) (hbk.mono (Below.size (Wd.h _)))⟩, rfl⟩)))) | (refine wpQuiet_step (fun K hK => ?_); go_simp; (first | (refine hK _ ?_; clear hK K) | (split <;> rename_i hg <;> (refine hK _ ?_; clear hK K) <;> (try simp only [Bool.not_eq_true] at hg) <;> (first | simp only [Int.not_lt.2 hg, decide_false] | simp only [Int.not_le.1 hg, decide_true] | simp only [hg, decide_true, decide_false] | skip)))))));  all_goals (refine wpQuiet_nil ?_; intro wq hgq))
      have hfin := hbA.trans (Below.mono hgq hbA.size)
      go_wp2_with fail
      go_ret
      exact ⟨rfl, hfin⟩
end Cv
end Go.Proofs.Ytcifbjgomflanaa
