/-
  Tariffs: the reference's Covered. No condition.
-/
import Derived.Test.YtcifbjgomflanaaCvB
import Derived.BigQuiet
import Derived.StillTailTactics
import Derived.Lib.Overlaps
import Derived.Deep.DeepCutAuto
import Derived.Deep.RegionWith
import Derived.Laws.RangeAny
set_option maxRecDepth 100000
set_option linter.unusedVariables false
set_option linter.unusedSimpArgs false
namespace Go.Proofs.Ytcifbjgomflanaa
open Go.RowKit

namespace Cv
open Xp Ck
theorem refrate_agg (name : ByteArray) (from_ : Int) (split : Bool) (Az : Option Addr) (nz cz : Nat) (Ab : Option Addr) (nb cb : Nat) (Ar : Option Addr) (nr cr : Nat) (Ad : Option Addr) (nd cd : Nat) (kind : Int) (z bd : ByteArray) (rs : List Rt) (w : World) (h : Sl w Ar nr cr rs) :
    Calls Try.prog 36 #[.agg #[.string name, .int .i64 from_, .bool split, .slice Az nz cz, .slice Ab nb cb, .slice Ar nr cr, .slice Ad nd cd], .int .i64 kind, .string z, .string bd] w fun e w' => e = .returned (.bool (ratedB rs kind z bd)) ∧ Below w.heap.size w w' :=
  refrate_any ⟨name, from_, split, Az, nz, cz, Ab, nb, cb, Ar, nr, cr, Ad, nd, cd⟩ kind z bd rs w h
def zoneB (bs : List Nm) (rs : List Rt) (kind : Int) (z : Nm) : Bool := bs.all (fun b => ratedB rs kind z.name b.name)
theorem covB_bad1 {zs bs : List Nm} {rs : List Rt} {kind : Int} {z : Nm} (hz : z ∈ zs) (h : bs.all (fun b => ratedB rs kind z.name b.name) = false) : covB zs bs rs kind = false := by
  obtain ⟨b, hb, hq⟩ := List.all_eq_false.1 h
  refine covB_bad hb ?_
  unfold bandB
  rw [Bool.and_eq_false_iff]; right; rw [List.all_eq_false]; exact ⟨z, hz, hq⟩
theorem covB_bad2 {zs bs : List Nm} {rs : List Rt} {kind : Int} (h : bs.all (fun b => ratedB rs kind ⟨#[]⟩ b.name) = false) : covB zs bs rs kind = false := by
  obtain ⟨b, hb, hq⟩ := List.all_eq_false.1 h
  refine covB_bad hb ?_
  unfold bandB
  rw [Bool.and_eq_false_iff]; left; simpa using hq
theorem covB_good {zs bs : List Nm} {rs : List Rt} {kind : Int} (h1 : ¬ kind < 1) (h4 : ¬ 4 < kind) (hz : zs.all (zoneB bs rs kind) = true) (h : bs.all (fun b => ratedB rs kind ⟨#[]⟩ b.name) = true) : covB zs bs rs kind = true := by
  rw [covB, decide_eq_true (by omega : 1 ≤ kind), decide_eq_true (by omega : kind ≤ 4)]
  rw [List.all_eq_true] at hz h
  refine List.all_eq_true.2 fun b hb => ?_
  rw [bandB, h b hb]
  refine List.all_eq_true.2 fun z hzz => ?_
  exact List.all_eq_true.1 (hz z hzz) b hb
set_option maxHeartbeats 8000000 in
theorem refcovered_any (t : Tv) (kind : Int) (zs bs : List Nm) (rs : List Rt) (w : World) (hsm : t.nz ≤ 1000) (hz : Sl w t.Az t.nz t.cz zs) (hb : Sl w t.Ab t.nb t.cb bs) (h : Sl w t.Ar t.nr t.cr rs) :
    Calls Try.prog 20 #[t.val, .int .i64 kind] w fun e w' => e = .returned (.bool (covB zs bs rs kind)) ∧ Below w.heap.size w w' := by
  have hnz := hz.nmax
  have hnb := hb.nmax
  have HZ := Lib.hid hz
  have HB := Lib.hid hb
  have HR := Lib.hid h
  clear h hz hb
  obtain ⟨name, from_, split, Az, nz, cz, Ab, nb, cb, Ar, nr, cr, Ad, nd, cd⟩ := t
  unfold Tv.val
  dsimp only at hsm hnz hnb HZ HB HR ⊢
  by_cases hk1 : kind < 1
  · go_enter Try.func20, Try.ntmps20
    go_wp2_with fail
    go_ret
    exact ⟨ret_bool (covB_out (.inl hk1)).symm, (Below.refl _ _).alloc (Nat.le_refl _) _⟩
  by_cases hk4 : 4 < kind
  · have hk5 : (5 : Int) ≤ kind := by omega
    go_enter Try.func20, Try.ntmps20
    go_wp2_with fail
    go_ret
    exact ⟨ret_bool (covB_out (.inr hk4)).symm, (Below.refl _ _).alloc (Nat.le_refl _) _⟩
  have HK := Lib.hid (And.intro hk1 hk4)
  have hk5 : ¬ (5 : Int) ≤ kind := by omega
  clear hk4
  go_enter Try.func20, Try.ntmps20
  go_upto_region 1 with (fail)
  (obtain ⟨W, hWW, hbW, hzW, f1W, qfa⟩ := box1 w #[.string name, .int .i64 from_, .bool split, .slice Az nz cz, .slice Ab nb cb, .slice Ar nr cr, .slice Ad nd cd] 39; rw [← hWW]; have qa0 : W.cell? ⟨w.heap.size, 0, none⟩ = some (.string name) := f1W 0 _ rfl; have qa1 : W.cell? ⟨w.heap.size, 1, none⟩ = some (.int .i64 from_) := f1W 1 _ rfl; have qa2 : W.cell? ⟨w.heap.size, 2, none⟩ = some (.bool split) := f1W 2 _ rfl; have qa3 : W.cell? ⟨w.heap.size, 3, none⟩ = some (.slice Az nz cz) := f1W 3 _ rfl; have qa4 : W.cell? ⟨w.heap.size, 4, none⟩ = some (.slice Ab nb cb) := f1W 4 _ rfl; have qa5 : W.cell? ⟨w.heap.size, 5, none⟩ = some (.slice Ar nr cr) := f1W 5 _ rfl; have qa6 : W.cell? ⟨w.heap.size, 6, none⟩ = some (.slice Ad nd cd) := f1W 6 _ rfl; clear hWW f1W)
  go_wp2_with fail
  clear hk1 hk5
  go_loopw [5] (fun i wr => ∃ k : Nat, k ≤ nz + 1 ∧ i = .int .i64 k ∧ Below W.heap.size W wr ∧ (zs.take k).all (zoneB bs rs kind) = true ∧ (k = nz + 1 → bs.all (fun b => ratedB rs kind ⟨#[]⟩ b.name) = true)) (fun i _ => nz + 1 - (intOf i).toNat)
  case atStart => exact ⟨0, Nat.zero_le _, rfl, Below.refl _ _, by simp, fun h => absurd h (by omega)⟩
  case round =>
    obtain ⟨k, hk, rfl, hbr, ha, hend⟩ := hrel
    have HA := Lib.hid ha
    have HE := Lib.hid hend
    clear ha hend
    have hzr := hbr.size
    have hbA := hbW.trans (hbr.mono hbW.size)
    (have hzhbr := hbr.size; replace qa0 := (hbr.cell (p := ⟨_, _, none⟩) (by (try dsimp only) <;> omega)).trans qa0; replace qa1 := (hbr.cell (p := ⟨_, _, none⟩) (by (try dsimp only) <;> omega)).trans qa1; replace qa2 := (hbr.cell (p := ⟨_, _, none⟩) (by (try dsimp only) <;> omega)).trans qa2; replace qa3 := (hbr.cell (p := ⟨_, _, none⟩) (by (try dsimp only) <;> omega)).trans qa3; replace qa4 := (hbr.cell (p := ⟨_, _, none⟩) (by (try dsimp only) <;> omega)).trans qa4; replace qa5 := (hbr.cell (p := ⟨_, _, none⟩) (by (try dsimp only) <;> omega)).trans qa5; replace qa6 := (hbr.cell (p := ⟨_, _, none⟩) (by (try dsimp only) <;> omega)).trans qa6)
    by_cases hle : k ≤ nz
    · have hle' : (k : Int) ≤ (nz : Int) := by omega
      obtain ⟨w2, hw2⟩ : ∃ w2, w2 = wr := ⟨_, rfl⟩
      by_cases hlt : k < nz
      · obtain ⟨b1, off1, rfl, hbl1, hcells⟩ := HZ.out.baseIn hbA (by omega)
        obtain ⟨y, hy⟩ := HZ.out.get hlt
        have d0 : wr.cell? ⟨b1, off1 + k * 2, none⟩ = some (.string y.name) := Sl.at_ hcells hy 0 rfl
        have HY := Lib.hid hy
        clear hcells hy
        rw [← hw2] at hbr hbA hzr d0 qa0 qa1 qa2 qa3 qa4 qa5 qa6 ⊢
        clear hw2
        go_wp2_with fail
        go_loopw [7] (fun i wi => ∃ j : Nat, j ≤ nb ∧ i = .int .i64 j ∧ Below w2.heap.size w2 wi ∧ (bs.take j).all (fun b => ratedB rs kind y.name b.name) = true) (fun i _ => nb - (intOf i).toNat)
        case atStart => exact ⟨0, Nat.zero_le _, rfl, Below.refl _ _, by simp⟩
        case round =>
          obtain ⟨j, hj, rfl, hbi, ha⟩ := hrel
          have HAI := Lib.hid ha
          clear ha
          have hzi := hbi.size
          replace hbr := hbr.trans (hbi.mono hbr.size)
          replace hbA := hbA.trans (hbi.mono hbA.size)
          (have hzhbi := hbi.size; replace qa0 := (hbi.cell (p := ⟨_, _, none⟩) (by (try dsimp only) <;> omega)).trans qa0; replace qa1 := (hbi.cell (p := ⟨_, _, none⟩) (by (try dsimp only) <;> omega)).trans qa1; replace qa2 := (hbi.cell (p := ⟨_, _, none⟩) (by (try dsimp only) <;> omega)).trans qa2; replace qa3 := (hbi.cell (p := ⟨_, _, none⟩) (by (try dsimp only) <;> omega)).trans qa3; replace qa4 := (hbi.cell (p := ⟨_, _, none⟩) (by (try dsimp only) <;> omega)).trans qa4; replace qa5 := (hbi.cell (p := ⟨_, _, none⟩) (by (try dsimp only) <;> omega)).trans qa5; replace qa6 := (hbi.cell (p := ⟨_, _, none⟩) (by (try dsimp only) <;> omega)).trans qa6)
          by_cases hltj : j < nb
          · obtain ⟨b, off, rfl, hbl, hcells⟩ := HB.out.baseIn hbA (by omega)
            obtain ⟨x, hx⟩ := HB.out.get hltj
            have c0 : wr.cell? ⟨b, off + j * 2, none⟩ = some (.string x.name) := Sl.at_ hcells hx 0 rfl
            have HX := Lib.hid hx
            have hbw : b < wr.heap.size := by have := hbA.size; omega
            clear hcells hx
            cases hq : ratedB rs kind y.name x.name
            · have HQ2 := Lib.hid hq
              clear hq
              go_upto_region 12 with (fail)
              ((with_reducible refine wp_region_class (Below wr.heap.size wr) ?_ ?_ ?_ ?_); kernel_rfl; kernel_rfl; (exact (Below.refl _ _).drew); (intro hnonemp); (have r0 := fun z : Wd (Below wr.heap.size wr) => (z.h.cell (p := ⟨_, _, none⟩) (by (try dsimp only) <;> omega)).trans qa0; have r1 := fun z : Wd (Below wr.heap.size wr) => (z.h.cell (p := ⟨_, _, none⟩) (by (try dsimp only) <;> omega)).trans qa1; have r2 := fun z : Wd (Below wr.heap.size wr) => (z.h.cell (p := ⟨_, _, none⟩) (by (try dsimp only) <;> omega)).trans qa2; have r3 := fun z : Wd (Below wr.heap.size wr) => (z.h.cell (p := ⟨_, _, none⟩) (by (try dsimp only) <;> omega)).trans qa3; have r4 := fun z : Wd (Below wr.heap.size wr) => (z.h.cell (p := ⟨_, _, none⟩) (by (try dsimp only) <;> omega)).trans qa4; have r5 := fun z : Wd (Below wr.heap.size wr) => (z.h.cell (p := ⟨_, _, none⟩) (by (try dsimp only) <;> omega)).trans qa5; have r6 := fun z : Wd (Below wr.heap.size wr) => (z.h.cell (p := ⟨_, _, none⟩) (by (try dsimp only) <;> omega)).trans qa6; have r7 := fun z : Wd (Below wr.heap.size wr) => (z.h.cell (p := ⟨_, _, none⟩) (by (try dsimp only) <;> omega)).trans c0); (repeat (any_goals (first | go_big_quiet_step (((go_at_call 36; (with_reducible refine (refrate_agg name from_ split (some ⟨b1, off1, none⟩) nz cz (some ⟨b, off, none⟩) nb cb Ar nr cr Ad nd cd kind y.name x.name rs _ (HR.out.below (hbA.trans (Below.mono (Wd.h _) hbA.size)))).mono ?_); rw [HQ2.out]; rintro e w' ⟨rfl, hbk⟩; exact ⟨rfl, ⟨w', Below.trans (Wd.h _) (hbk.mono (Below.size (Wd.h _)))⟩, rfl⟩))) | (refine wpQuiet_step (fun K hK => ?_); go_simp; (first | (refine hK _ ?_; clear hK K) | (split <;> rename_i hg <;> (refine hK _ ?_; clear hK K) <;> (try simp only [Bool.not_eq_true] at hg) <;> (first | simp only [Int.not_lt.2 hg, decide_false] | simp only [Int.not_le.1 hg, decide_true] | simp only [hg, decide_true, decide_false] | skip)))))));  all_goals (refine wpQuiet_nil ?_; intro wq hgq))
              go_wp2_with fail
              go_ret
              exact ⟨ret_bool (covB_bad1 (List.mem_of_getElem? HY.out) (all_bad HX.out (p := fun b => ratedB rs kind y.name b.name) HQ2.out)).symm, hbA.trans (hgq.mono hbA.size)⟩
            · have HQ2 := Lib.hid hq
              clear hq
              go_upto_region 12 with (fail)
              ((with_reducible refine wp_region_class (Below wr.heap.size wr) ?_ ?_ ?_ ?_); kernel_rfl; kernel_rfl; (exact (Below.refl _ _).drew); (intro hnonemp); (have r0 := fun z : Wd (Below wr.heap.size wr) => (z.h.cell (p := ⟨_, _, none⟩) (by (try dsimp only) <;> omega)).trans qa0; have r1 := fun z : Wd (Below wr.heap.size wr) => (z.h.cell (p := ⟨_, _, none⟩) (by (try dsimp only) <;> omega)).trans qa1; have r2 := fun z : Wd (Below wr.heap.size wr) => (z.h.cell (p := ⟨_, _, none⟩) (by (try dsimp only) <;> omega)).trans qa2; have r3 := fun z : Wd (Below wr.heap.size wr) => (z.h.cell (p := ⟨_, _, none⟩) (by (try dsimp only) <;> omega)).trans qa3; have r4 := fun z : Wd (Below wr.heap.size wr) => (z.h.cell (p := ⟨_, _, none⟩) (by (try dsimp only) <;> omega)).trans qa4; have r5 := fun z : Wd (Below wr.heap.size wr) => (z.h.cell (p := ⟨_, _, none⟩) (by (try dsimp only) <;> omega)).trans qa5; have r6 := fun z : Wd (Below wr.heap.size wr) => (z.h.cell (p := ⟨_, _, none⟩) (by (try dsimp only) <;> omega)).trans qa6; have r7 := fun z : Wd (Below wr.heap.size wr) => (z.h.cell (p := ⟨_, _, none⟩) (by (try dsimp only) <;> omega)).trans c0); (repeat (any_goals (first | go_big_quiet_step (((go_at_call 36; (with_reducible refine (refrate_agg name from_ split (some ⟨b1, off1, none⟩) nz cz (some ⟨b, off, none⟩) nb cb Ar nr cr Ad nd cd kind y.name x.name rs _ (HR.out.below (hbA.trans (Below.mono (Wd.h _) hbA.size)))).mono ?_); rw [HQ2.out]; rintro e w' ⟨rfl, hbk⟩; exact ⟨rfl, ⟨w', Below.trans (Wd.h _) (hbk.mono (Below.size (Wd.h _)))⟩, rfl⟩))) | (refine wpQuiet_step (fun K hK => ?_); go_simp; (first | (refine hK _ ?_; clear hK K) | (split <;> rename_i hg <;> (refine hK _ ?_; clear hK K) <;> (try simp only [Bool.not_eq_true] at hg) <;> (first | simp only [Int.not_lt.2 hg, decide_false] | simp only [Int.not_le.1 hg, decide_true] | simp only [hg, decide_true, decide_false] | skip)))))));  all_goals (refine wpQuiet_nil ?_; intro wq hgq))
              go_wp2_with fail
              go_roundw
              case rel => exact ⟨j + 1, by omega, by go_num, hbi.trans (hgq.mono hbi.size), all_take HAI.out HX.out HQ2.out⟩
              case measure => simp [intOf]; omega
          · obtain rfl : nb = j := by omega
            have ha := HAI.out
            rw [List.take_of_length_le (by rw [HB.out.len]; exact Nat.le_refl _)] at ha
            have HA2 := Lib.hid ha
            clear ha
            have hkn2 : ¬ ((nb : Int) < (nb : Int)) := by omega
            go_wp2_with fail
            go_roundw
            case rel => exact ⟨k + 1, by omega, by go_num, hbr, all_take HA.out HY.out HA2.out, fun h => absurd h (by omega)⟩
            case measure => (simp [intOf]; try omega)
      · obtain rfl : nz = k := by omega
        rw [← hw2] at hbr hbA hzr qa0 qa1 qa2 qa3 qa4 qa5 qa6 ⊢
        clear hw2
        have hkn : ¬ ((nz : Int) < (nz : Int)) := by omega
        go_wp2_with fail
        go_loopw [7] (fun i wi => ∃ j : Nat, j ≤ nb ∧ i = .int .i64 j ∧ Below w2.heap.size w2 wi ∧ (bs.take j).all (fun b => ratedB rs kind ⟨#[]⟩ b.name) = true) (fun i _ => nb - (intOf i).toNat)
        case atStart => exact ⟨0, Nat.zero_le _, rfl, Below.refl _ _, by simp⟩
        case round =>
          obtain ⟨j, hj, rfl, hbi, ha⟩ := hrel
          have HAI := Lib.hid ha
          clear ha
          have hzi := hbi.size
          replace hbr := hbr.trans (hbi.mono hbr.size)
          replace hbA := hbA.trans (hbi.mono hbA.size)
          (have hzhbi := hbi.size; replace qa0 := (hbi.cell (p := ⟨_, _, none⟩) (by (try dsimp only) <;> omega)).trans qa0; replace qa1 := (hbi.cell (p := ⟨_, _, none⟩) (by (try dsimp only) <;> omega)).trans qa1; replace qa2 := (hbi.cell (p := ⟨_, _, none⟩) (by (try dsimp only) <;> omega)).trans qa2; replace qa3 := (hbi.cell (p := ⟨_, _, none⟩) (by (try dsimp only) <;> omega)).trans qa3; replace qa4 := (hbi.cell (p := ⟨_, _, none⟩) (by (try dsimp only) <;> omega)).trans qa4; replace qa5 := (hbi.cell (p := ⟨_, _, none⟩) (by (try dsimp only) <;> omega)).trans qa5; replace qa6 := (hbi.cell (p := ⟨_, _, none⟩) (by (try dsimp only) <;> omega)).trans qa6)
          by_cases hltj : j < nb
          · obtain ⟨b, off, rfl, hbl, hcells⟩ := HB.out.baseIn hbA (by omega)
            obtain ⟨x, hx⟩ := HB.out.get hltj
            have c0 : wr.cell? ⟨b, off + j * 2, none⟩ = some (.string x.name) := Sl.at_ hcells hx 0 rfl
            have HX := Lib.hid hx
            have hbw : b < wr.heap.size := by have := hbA.size; omega
            clear hcells hx
            cases hq : ratedB rs kind ⟨#[]⟩ x.name
            · have HQ2 := Lib.hid hq
              clear hq
              go_upto_region 12 with (fail)
              ((with_reducible refine wp_region_class (Below wr.heap.size wr) ?_ ?_ ?_ ?_); kernel_rfl; kernel_rfl; (exact (Below.refl _ _).drew); (intro hnonemp); (have r0 := fun z : Wd (Below wr.heap.size wr) => (z.h.cell (p := ⟨_, _, none⟩) (by (try dsimp only) <;> omega)).trans qa0; have r1 := fun z : Wd (Below wr.heap.size wr) => (z.h.cell (p := ⟨_, _, none⟩) (by (try dsimp only) <;> omega)).trans qa1; have r2 := fun z : Wd (Below wr.heap.size wr) => (z.h.cell (p := ⟨_, _, none⟩) (by (try dsimp only) <;> omega)).trans qa2; have r3 := fun z : Wd (Below wr.heap.size wr) => (z.h.cell (p := ⟨_, _, none⟩) (by (try dsimp only) <;> omega)).trans qa3; have r4 := fun z : Wd (Below wr.heap.size wr) => (z.h.cell (p := ⟨_, _, none⟩) (by (try dsimp only) <;> omega)).trans qa4; have r5 := fun z : Wd (Below wr.heap.size wr) => (z.h.cell (p := ⟨_, _, none⟩) (by (try dsimp only) <;> omega)).trans qa5; have r6 := fun z : Wd (Below wr.heap.size wr) => (z.h.cell (p := ⟨_, _, none⟩) (by (try dsimp only) <;> omega)).trans qa6; have r7 := fun z : Wd (Below wr.heap.size wr) => (z.h.cell (p := ⟨_, _, none⟩) (by (try dsimp only) <;> omega)).trans c0); (repeat (any_goals (first | go_big_quiet_step (((go_at_call 36; (with_reducible refine (refrate_agg name from_ split Az nz cz (some ⟨b, off, none⟩) nb cb Ar nr cr Ad nd cd kind ⟨#[]⟩ x.name rs _ (HR.out.below (hbA.trans (Below.mono (Wd.h _) hbA.size)))).mono ?_); rw [HQ2.out]; rintro e w' ⟨rfl, hbk⟩; exact ⟨rfl, ⟨w', Below.trans (Wd.h _) (hbk.mono (Below.size (Wd.h _)))⟩, rfl⟩))) | (refine wpQuiet_step (fun K hK => ?_); go_simp; (first | (refine hK _ ?_; clear hK K) | (split <;> rename_i hg <;> (refine hK _ ?_; clear hK K) <;> (try simp only [Bool.not_eq_true] at hg) <;> (first | simp only [Int.not_lt.2 hg, decide_false] | simp only [Int.not_le.1 hg, decide_true] | simp only [hg, decide_true, decide_false] | skip)))))));  all_goals (refine wpQuiet_nil ?_; intro wq hgq))
              go_wp2_with fail
              go_ret
              exact ⟨ret_bool (covB_bad2 (all_bad HX.out (p := fun b => ratedB rs kind ⟨#[]⟩ b.name) HQ2.out)).symm, hbA.trans (hgq.mono hbA.size)⟩
            · have HQ2 := Lib.hid hq
              clear hq
              go_upto_region 12 with (fail)
              ((with_reducible refine wp_region_class (Below wr.heap.size wr) ?_ ?_ ?_ ?_); kernel_rfl; kernel_rfl; (exact (Below.refl _ _).drew); (intro hnonemp); (have r0 := fun z : Wd (Below wr.heap.size wr) => (z.h.cell (p := ⟨_, _, none⟩) (by (try dsimp only) <;> omega)).trans qa0; have r1 := fun z : Wd (Below wr.heap.size wr) => (z.h.cell (p := ⟨_, _, none⟩) (by (try dsimp only) <;> omega)).trans qa1; have r2 := fun z : Wd (Below wr.heap.size wr) => (z.h.cell (p := ⟨_, _, none⟩) (by (try dsimp only) <;> omega)).trans qa2; have r3 := fun z : Wd (Below wr.heap.size wr) => (z.h.cell (p := ⟨_, _, none⟩) (by (try dsimp only) <;> omega)).trans qa3; have r4 := fun z : Wd (Below wr.heap.size wr) => (z.h.cell (p := ⟨_, _, none⟩) (by (try dsimp only) <;> omega)).trans qa4; have r5 := fun z : Wd (Below wr.heap.size wr) => (z.h.cell (p := ⟨_, _, none⟩) (by (try dsimp only) <;> omega)).trans qa5; have r6 := fun z : Wd (Below wr.heap.size wr) => (z.h.cell (p := ⟨_, _, none⟩) (by (try dsimp only) <;> omega)).trans qa6; have r7 := fun z : Wd (Below wr.heap.size wr) => (z.h.cell (p := ⟨_, _, none⟩) (by (try dsimp only) <;> omega)).trans c0); (repeat (any_goals (first | go_big_quiet_step (((go_at_call 36; (with_reducible refine (refrate_agg name from_ split Az nz cz (some ⟨b, off, none⟩) nb cb Ar nr cr Ad nd cd kind ⟨#[]⟩ x.name rs _ (HR.out.below (hbA.trans (Below.mono (Wd.h _) hbA.size)))).mono ?_); rw [HQ2.out]; rintro e w' ⟨rfl, hbk⟩; exact ⟨rfl, ⟨w', Below.trans (Wd.h _) (hbk.mono (Below.size (Wd.h _)))⟩, rfl⟩))) | (refine wpQuiet_step (fun K hK => ?_); go_simp; (first | (refine hK _ ?_; clear hK K) | (split <;> rename_i hg <;> (refine hK _ ?_; clear hK K) <;> (try simp only [Bool.not_eq_true] at hg) <;> (first | simp only [Int.not_lt.2 hg, decide_false] | simp only [Int.not_le.1 hg, decide_true] | simp only [hg, decide_true, decide_false] | skip)))))));  all_goals (refine wpQuiet_nil ?_; intro wq hgq))
              go_wp2_with fail
              go_roundw
              case rel => exact ⟨j + 1, by omega, by go_num, hbi.trans (hgq.mono hbi.size), all_take HAI.out HX.out HQ2.out⟩
              case measure => simp [intOf]; omega
          · obtain rfl : nb = j := by omega
            have ha := HAI.out
            rw [List.take_of_length_le (by rw [HB.out.len]; exact Nat.le_refl _)] at ha
            have HA2 := Lib.hid ha
            clear ha
            have hkn2 : ¬ ((nb : Int) < (nb : Int)) := by omega
            go_wp2_with fail
            go_roundw
            case rel => exact ⟨nz + 1, by omega, by go_num, hbr, by rw [List.take_of_length_le (by rw [HZ.out.len]; omega)]; rw [List.take_of_length_le (by rw [HZ.out.len]; exact Nat.le_refl _)] at HA; exact HA.out, fun _ => HA2.out⟩
            case measure => (simp [intOf]; try omega)
    · obtain rfl : k = nz + 1 := by omega
      have ha := HA.out
      rw [List.take_of_length_le (by rw [HZ.out.len]; omega)] at ha
      have HA2 := Lib.hid ha
      clear ha
      have hkn : ¬ ((((nz + 1 : Nat) : Int)) ≤ (nz : Int)) := by omega
      go_wp2_with fail
      go_ret
      exact ⟨ret_bool (covB_good (by have := HK.out.1; omega) (by have := HK.out.2; omega) HA2.out (by first | exact HE.out rfl | exact HE.out trivial)).symm, hbA⟩
end Cv
end Go.Proofs.Ytcifbjgomflanaa
