/-
  Tariffs: the reference's Replace. No condition.
-/
import Derived.Test.YtdnnnajohdohaaaT8Y
import Derived.BigQuiet
import Derived.StillTailTactics
import Derived.Lib.Overlaps
import Derived.Deep.DeepCutAuto
import Derived.Deep.RegionWith
import Derived.Laws.RangeAny
set_option maxRecDepth 100000
set_option linter.unusedVariables false
set_option linter.unusedSimpArgs false
namespace Go.Proofs.Ytdnnnajohdohaaa
open Go.RowKit

namespace Cv
open Xp Ck
set_option maxHeartbeats 16000000 in
theorem refreplace_any (A : Option Addr) (n c : Nat) (Ts : List Td) (t : Tv) (T : Td) (w : World) (h : LT w A n c Ts) (ht : TD w t T) (hn9 : n ≤ 1000) :
    Calls Try.prog 20 #[.slice A n c, t.val] w fun e w' => (∃ A' n' c', e = .returned (.tuple #[.slice A' n' c', .int .i64 (repD Ts T).2]) ∧ LT w' A' n' c' (repD Ts T).1) ∧ Below w.heap.size w w' := by
  have HLT := Lib.hid h
  obtain ⟨hnil, ts, hs, ha⟩ := h
  have HNIL := Lib.hid hnil
  have HS := Lib.hid hs
  have HA := Lib.hid ha
  have HTD := Lib.hid ht
  have HLen := Lib.hid (show Ts.length = n by rw [← ha.1, hs.len])
  clear hs ha ht hnil
  unfold Tv.val
  go_enter Try.func20, Try.ntmps20
  go_upto_region 1 with (fail)
  (obtain ⟨W, hWW, hbW, hzW, f1W, qfa⟩ := box1 w #[.string t.name, .int .i64 t.from_, .bool t.split, .slice t.Az t.nz t.cz, .slice t.Ab t.nb t.cb, .slice t.Ar t.nr t.cr, .slice t.Ad t.nd t.cd] 32; rw [← hWW]; have qa0 : W.cell? ⟨w.heap.size, 0, none⟩ = some (.string t.name) := f1W 0 _ rfl; have qa1 : W.cell? ⟨w.heap.size, 1, none⟩ = some (.int .i64 t.from_) := f1W 1 _ rfl; have qa2 : W.cell? ⟨w.heap.size, 2, none⟩ = some (.bool t.split) := f1W 2 _ rfl; have qa3 : W.cell? ⟨w.heap.size, 3, none⟩ = some (.slice t.Az t.nz t.cz) := f1W 3 _ rfl; have qa4 : W.cell? ⟨w.heap.size, 4, none⟩ = some (.slice t.Ab t.nb t.cb) := f1W 4 _ rfl; have qa5 : W.cell? ⟨w.heap.size, 5, none⟩ = some (.slice t.Ar t.nr t.cr) := f1W 5 _ rfl; have qa6 : W.cell? ⟨w.heap.size, 6, none⟩ = some (.slice t.Ad t.nd t.cd) := f1W 6 _ rfl; clear hWW f1W)
  have HC1 := Lib.hid (refcheck_any A n c Ts W (HLT.out.on_ hbW))
  go_wp2_with fail
  refine HC1.out.mono ?_
  rintro r w1 ⟨rfl, hb1⟩
  have hbT1 := hbW.trans (hb1.mono hbW.size)
  obtain ⟨y, hy⟩ : ∃ y, chkE Ts = y := ⟨_, rfl⟩
  rw [hy]
  have HY1 := Lib.hid hy
  clear hy HC1
  by_cases hy0 : y = 0
  case neg =>
    have q5 : (y == 0) = false := by simpa using hy0
    have q6 : (y != 0) = true := by simpa using hy0
    have HQ := Lib.hid (repD_chk (T := T) HY1.out hy0)
    clear hy0
    go_wp2_with fail
    go_ret2
    rw [HQ.out]
    exact ⟨⟨none, 0, 0, rfl, lt_nil _⟩, hbT1⟩
  subst hy0
  have hz1 := hb1.size
  (have rqa0 := (hb1.cell (p := ⟨_, _, none⟩) (by (try dsimp only) <;> omega)).trans qa0; have rqa1 := (hb1.cell (p := ⟨_, _, none⟩) (by (try dsimp only) <;> omega)).trans qa1; have rqa2 := (hb1.cell (p := ⟨_, _, none⟩) (by (try dsimp only) <;> omega)).trans qa2; have rqa3 := (hb1.cell (p := ⟨_, _, none⟩) (by (try dsimp only) <;> omega)).trans qa3; have rqa4 := (hb1.cell (p := ⟨_, _, none⟩) (by (try dsimp only) <;> omega)).trans qa4; have rqa5 := (hb1.cell (p := ⟨_, _, none⟩) (by (try dsimp only) <;> omega)).trans qa5; have rqa6 := (hb1.cell (p := ⟨_, _, none⟩) (by (try dsimp only) <;> omega)).trans qa6)
  have hcl := reftariff_D (HTD.out.on hbT1)
  unfold Tv.val at hcl
  have HC2 := Lib.hid hcl
  clear hcl
  go_wp2_with fail
  refine HC2.out.mono ?_
  rintro r w2 ⟨rfl, hb2⟩
  have hbT2 := hbT1.trans (hb2.mono hbT1.size)
  obtain ⟨y, hy⟩ : ∃ y, tarD T = y := ⟨_, rfl⟩
  rw [hy]
  have HY2 := Lib.hid hy
  clear hy HC2
  by_cases hy0 : y = 0
  case neg =>
    have q5 : (y != 0) = true := by simpa using hy0
    have HQ := Lib.hid (repD_tar HY1.out HY2.out hy0)
    clear hy0
    go_wp2_with fail
    go_ret2
    rw [HQ.out]
    exact ⟨⟨none, 0, 0, rfl, lt_nil _⟩, hbT2⟩
  subst hy0
  have HQ := Lib.hid (repD_ok HY1.out HY2.out)
  have hb12 := hb1.trans (hb2.mono hb1.size)
  clear hb1 hb2 hbT1 hbT2 rqa0 rqa1 rqa2 rqa3 rqa4 rqa5 rqa6
  go_wp2_with fail
  go_loopw [7] (fun i wr => ∃ k : Nat, k ≤ n ∧ i = .int .i64 k ∧ Below W.heap.size W wr ∧ ∀ j y, j < k → Ts[j]? = some y → cmpT y T < 0) (fun i _ => n - (intOf i).toNat)
  case atStart => exact ⟨0, Nat.zero_le _, rfl, hb12, fun j y hj => absurd hj (by omega)⟩
  case round =>
    clear hb12
    obtain ⟨k, hk, rfl, hbr, hall⟩ := hrel
    have HK := Lib.hid hall
    clear hall
    have hzr := hbr.size
    have hbA := hbW.trans (hbr.mono hbW.size)
    (have rqa0 := (hbr.cell (p := ⟨_, _, none⟩) (by (try dsimp only) <;> omega)).trans qa0; have rqa1 := (hbr.cell (p := ⟨_, _, none⟩) (by (try dsimp only) <;> omega)).trans qa1; have rqa2 := (hbr.cell (p := ⟨_, _, none⟩) (by (try dsimp only) <;> omega)).trans qa2; have rqa3 := (hbr.cell (p := ⟨_, _, none⟩) (by (try dsimp only) <;> omega)).trans qa3; have rqa4 := (hbr.cell (p := ⟨_, _, none⟩) (by (try dsimp only) <;> omega)).trans qa4; have rqa5 := (hbr.cell (p := ⟨_, _, none⟩) (by (try dsimp only) <;> omega)).trans qa5; have rqa6 := (hbr.cell (p := ⟨_, _, none⟩) (by (try dsimp only) <;> omega)).trans qa6)
    by_cases hlt : k < n
    · obtain ⟨b, off, hAe, hbl, hcells⟩ := HS.out.baseIn hbA (by omega)
      obtain ⟨x, hx⟩ := HS.out.get hlt
      obtain ⟨X, hX, hXD⟩ := HA.out.at_ hx
      subst hAe
      (have e0 : wr.cell? ⟨b, off + k * 7, none⟩ = some (.string x.name) := Sl.at_ hcells hx 0 rfl; have e1 : wr.cell? ⟨b, off + k * 7 + 1, none⟩ = some (.int .i64 x.from_) := Sl.at_ hcells hx 1 rfl; have e2 : wr.cell? ⟨b, off + k * 7 + 2, none⟩ = some (.bool x.split) := Sl.at_ hcells hx 2 rfl; have e3 : wr.cell? ⟨b, off + k * 7 + 3, none⟩ = some (.slice x.Az x.nz x.cz) := Sl.at_ hcells hx 3 rfl; have e4 : wr.cell? ⟨b, off + k * 7 + 4, none⟩ = some (.slice x.Ab x.nb x.cb) := Sl.at_ hcells hx 4 rfl; have e5 : wr.cell? ⟨b, off + k * 7 + 5, none⟩ = some (.slice x.Ar x.nr x.cr) := Sl.at_ hcells hx 5 rfl; have e6 : wr.cell? ⟨b, off + k * 7 + 6, none⟩ = some (.slice x.Ad x.nd x.cd) := Sl.at_ hcells hx 6 rfl)
      have hbl2 : b < wr.heap.size := Nat.lt_of_lt_of_le hbl hbA.size
      obtain ⟨cv, hcv⟩ : ∃ cv, cmpT X T = cv := ⟨_, rfl⟩
      have HCMP := Lib.hid (fun w3 (h3 : Below w.heap.size w w3) => order_any (hXD.on h3) (HTD.out.on h3))
      unfold Tv.val at HCMP
      rw [hcv] at HCMP
      have HCV := Lib.hid hcv
      have HX := Lib.hid hX
      have HXX := Lib.hid hx
      clear hcells hx hX hXD hcv
      go_upto_region 7 with (fail)
      ((with_reducible refine wp_region_class (Below wr.heap.size wr) ?_ ?_ ?_ ?_); kernel_rfl; kernel_rfl; (exact (Below.refl _ _).drew); (intro hnonemp); (have ze0 := fun z : Wd (Below wr.heap.size wr) => (z.h.cell (p := ⟨_, _, none⟩) (by (try dsimp only) <;> omega)).trans e0; have ze1 := fun z : Wd (Below wr.heap.size wr) => (z.h.cell (p := ⟨_, _, none⟩) (by (try dsimp only) <;> omega)).trans e1; have ze2 := fun z : Wd (Below wr.heap.size wr) => (z.h.cell (p := ⟨_, _, none⟩) (by (try dsimp only) <;> omega)).trans e2; have ze3 := fun z : Wd (Below wr.heap.size wr) => (z.h.cell (p := ⟨_, _, none⟩) (by (try dsimp only) <;> omega)).trans e3; have ze4 := fun z : Wd (Below wr.heap.size wr) => (z.h.cell (p := ⟨_, _, none⟩) (by (try dsimp only) <;> omega)).trans e4; have ze5 := fun z : Wd (Below wr.heap.size wr) => (z.h.cell (p := ⟨_, _, none⟩) (by (try dsimp only) <;> omega)).trans e5; have ze6 := fun z : Wd (Below wr.heap.size wr) => (z.h.cell (p := ⟨_, _, none⟩) (by (try dsimp only) <;> omega)).trans e6; have zrqa0 := fun z : Wd (Below wr.heap.size wr) => (z.h.cell (p := ⟨_, _, none⟩) (by (try dsimp only) <;> omega)).trans rqa0; have zrqa1 := fun z : Wd (Below wr.heap.size wr) => (z.h.cell (p := ⟨_, _, none⟩) (by (try dsimp only) <;> omega)).trans rqa1; have zrqa2 := fun z : Wd (Below wr.heap.size wr) => (z.h.cell (p := ⟨_, _, none⟩) (by (try dsimp only) <;> omega)).trans rqa2; have zrqa3 := fun z : Wd (Below wr.heap.size wr) => (z.h.cell (p := ⟨_, _, none⟩) (by (try dsimp only) <;> omega)).trans rqa3; have zrqa4 := fun z : Wd (Below wr.heap.size wr) => (z.h.cell (p := ⟨_, _, none⟩) (by (try dsimp only) <;> omega)).trans rqa4; have zrqa5 := fun z : Wd (Below wr.heap.size wr) => (z.h.cell (p := ⟨_, _, none⟩) (by (try dsimp only) <;> omega)).trans rqa5; have zrqa6 := fun z : Wd (Below wr.heap.size wr) => (z.h.cell (p := ⟨_, _, none⟩) (by (try dsimp only) <;> omega)).trans rqa6); (repeat (any_goals (first | go_big_quiet_step (((first | (go_at_call 27; (with_reducible refine (HCMP.out _ (hbA.trans (Below.mono (Wd.h _) hbA.size))).mono ?_); rintro e w' ⟨rfl, hbk⟩; exact ⟨rfl, ⟨w', Below.trans (Wd.h _) (hbk.mono (Below.size (Wd.h _)))⟩, rfl⟩)))) | (refine wpQuiet_step (fun K hK => ?_); go_simp; (first | (refine hK _ ?_; clear hK K) | (split <;> rename_i hg <;> (refine hK _ ?_; clear hK K) <;> (try simp only [Bool.not_eq_true] at hg) <;> (first | simp only [Int.not_lt.2 hg, decide_false] | simp only [Int.not_le.1 hg, decide_true] | simp only [hg, decide_true, decide_false] | skip)))))));  all_goals (refine wpQuiet_nil ?_; intro wq hgq))
      all_goals first
      | (exfalso; omega)
      | skip
      replace hbr := hbr.trans (hgq.mono hbr.size)
      replace hbA := hbA.trans (hgq.mono hbA.size)
      clear ze0 ze1 ze2 ze3 ze4 ze5 ze6 zrqa0 zrqa1 zrqa2 zrqa3 zrqa4 zrqa5 zrqa6 e0 e1 e2 e3 e4 e5 e6 rqa0 rqa1 rqa2 rqa3 rqa4 rqa5 rqa6 hgq hnonemp
      by_cases hcv0 : cv < 0
      · have HS1 := Lib.hid (lt_step HK.out HX.out (by rw [HCV.out]; exact hcv0))
        go_wp2_with fail
        go_roundw
        case rel => exact ⟨k + 1, by omega, by go_num, hbr, HS1.out⟩
        case measure => simp [intOf]; omega
      · have hp : plc Ts T = k := plc_at Ts T k X HK.out HX.out (by rw [HCV.out]; exact hcv0)
        have HP := Lib.hid hp
        have HSM := Lib.hid (show sameB Ts T = decide (cv = 0) by unfold sameB; rw [hp, HX.out]; simp only; rw [HCV.out])
        clear hp
        obtain ⟨wp, hwp⟩ : ∃ wp, wp = wq := ⟨_, rfl⟩
        subst hwp
        have hslT : ∀ W, (Instr.slice 22 (.slice (some ⟨b, off, none⟩) n c) none (some (.int .i64 (k : Int))) none).run Try.prog W = .ok (.slice (some ⟨b, off, none⟩) k c) W := fun W => run_slice_to (sz := 7) (by kernel_rfl) (by kernel_rfl) (by have := HS.out.le; omega) W
        have HST := Lib.hid (Sl.takeK HS.out (k := k) (by omega))
        have htl : (ts.take k).length ≤ 1000 := by rw [List.length_take]; omega
        have hbD : Below (wp).heap.size (wp) ((wp).alloc (.cells #[] 32)) := (Below.refl _ _).alloc (Nat.le_refl _) _
        go_upto_region 10 with (at_builtin; go_must (
          refine wpl_appendS _ rfl (.tmp 33) (.tmp 36) 22 rfl (wp).heap.size 32 _ 128 Try.underlying22 info_tar rfl (.slice (some ⟨(wp).heap.size, 0, none⟩) 0 0) ([] : List Tv) rfl (World.ownsRow_lit (wp) #[] 0 (Nat.le_refl _) (Nat.zero_le _) rfl) (some ⟨b, off, none⟩) k c (ts.take k) rfl HNIL.out (HST.out.below (hbA.trans (hbD.mono hbA.size))) (by simp; omega) (by omega) (by rw [alloc_size]; omega) ?_
          intro v5 w5 ho5 hu5
          have hb5 : Below (wp).heap.size (wp) w5 := hbD.grown hu5.grew (by rw [alloc_size]; omega) (fun j hj => by have h9 : some (wp).heap.size = some j := hj; injection h9 with h9; omega)
          rw [List.nil_append] at ho5
          have HO5 := Lib.hid ho5
          have HB5 := Lib.hid hb5
          clear ho5 hu5 hb5))
        have hb5 := hbr.trans (HB5.out.mono hbr.size)
        (have sqa0 := (hb5.cell (p := ⟨_, _, none⟩) (by (try dsimp only) <;> omega)).trans qa0; have sqa1 := (hb5.cell (p := ⟨_, _, none⟩) (by (try dsimp only) <;> omega)).trans qa1; have sqa2 := (hb5.cell (p := ⟨_, _, none⟩) (by (try dsimp only) <;> omega)).trans qa2; have sqa3 := (hb5.cell (p := ⟨_, _, none⟩) (by (try dsimp only) <;> omega)).trans qa3; have sqa4 := (hb5.cell (p := ⟨_, _, none⟩) (by (try dsimp only) <;> omega)).trans qa4; have sqa5 := (hb5.cell (p := ⟨_, _, none⟩) (by (try dsimp only) <;> omega)).trans qa5; have sqa6 := (hb5.cell (p := ⟨_, _, none⟩) (by (try dsimp only) <;> omega)).trans qa6)
        clear hb5 hbD
        go_upto_region 11 with (at_builtin; go_must (
          refine wpl_append1 _ rfl (.tmp 38) (.tmp 40) 22 rfl (wp).heap.size 32 _ 128 Try.underlying22 info_tar rfl _ (ts.take k) rfl (HO5.out.alloc _) _ t rfl (fun j u hu => cells_new _ _ _ _ _ (by simp) u hu) (by omega) (by omega) (by rw [alloc_size]; have := HB5.out.size; omega) ?_
          intro v6 w6 ho6 hu6
          have hb6 := hu6.belowBase (HO5.out.alloc _) (HB5.out.alloc HB5.out.size _) (by rw [alloc_size]; have := HB5.out.size; omega)
          have HO6 := Lib.hid ho6
          have HB6 := Lib.hid hb6
          clear ho6 hu6 hb6))
        have hbR6 := hbr.trans (HB6.out.mono hbr.size)
        have hbA6 := hbA.trans (HB6.out.mono hbA.size)
        clear sqa0 sqa1 sqa2 sqa3 sqa4 sqa5 sqa6
        obtain ⟨b', off', heq, _, hcells⟩ := HS.out.baseIn hbA6 (by omega)
        cases heq
        have hx := HXX.out
        (have e0 : w6.cell? ⟨b, off + k * 7, none⟩ = some (.string x.name) := Sl.at_ hcells hx 0 rfl; have e1 : w6.cell? ⟨b, off + k * 7 + 1, none⟩ = some (.int .i64 x.from_) := Sl.at_ hcells hx 1 rfl; have e2 : w6.cell? ⟨b, off + k * 7 + 2, none⟩ = some (.bool x.split) := Sl.at_ hcells hx 2 rfl; have e3 : w6.cell? ⟨b, off + k * 7 + 3, none⟩ = some (.slice x.Az x.nz x.cz) := Sl.at_ hcells hx 3 rfl; have e4 : w6.cell? ⟨b, off + k * 7 + 4, none⟩ = some (.slice x.Ab x.nb x.cb) := Sl.at_ hcells hx 4 rfl; have e5 : w6.cell? ⟨b, off + k * 7 + 5, none⟩ = some (.slice x.Ar x.nr x.cr) := Sl.at_ hcells hx 5 rfl; have e6 : w6.cell? ⟨b, off + k * 7 + 6, none⟩ = some (.slice x.Ad x.nd x.cd) := Sl.at_ hcells hx 6 rfl)
        (have rqa0 := (hbR6.cell (p := ⟨_, _, none⟩) (by (try dsimp only) <;> omega)).trans qa0; have rqa1 := (hbR6.cell (p := ⟨_, _, none⟩) (by (try dsimp only) <;> omega)).trans qa1; have rqa2 := (hbR6.cell (p := ⟨_, _, none⟩) (by (try dsimp only) <;> omega)).trans qa2; have rqa3 := (hbR6.cell (p := ⟨_, _, none⟩) (by (try dsimp only) <;> omega)).trans qa3; have rqa4 := (hbR6.cell (p := ⟨_, _, none⟩) (by (try dsimp only) <;> omega)).trans qa4; have rqa5 := (hbR6.cell (p := ⟨_, _, none⟩) (by (try dsimp only) <;> omega)).trans qa5; have rqa6 := (hbR6.cell (p := ⟨_, _, none⟩) (by (try dsimp only) <;> omega)).trans qa6)
        have hbl6 : b < w6.heap.size := Nat.lt_of_lt_of_le hbl hbA6.size
        have hg6 : w.heap.size < w6.heap.size := Nat.lt_of_lt_of_le (by omega) hbR6.size
        clear hcells hx
        ((with_reducible refine wp_region_class (Below w6.heap.size w6) ?_ ?_ ?_ ?_); kernel_rfl; kernel_rfl; (exact (Below.refl _ _).drew); (intro hnonemp); (have ze0 := fun z : Wd (Below w6.heap.size w6) => (z.h.cell (p := ⟨_, _, none⟩) (by (try dsimp only) <;> omega)).trans e0; have ze1 := fun z : Wd (Below w6.heap.size w6) => (z.h.cell (p := ⟨_, _, none⟩) (by (try dsimp only) <;> omega)).trans e1; have ze2 := fun z : Wd (Below w6.heap.size w6) => (z.h.cell (p := ⟨_, _, none⟩) (by (try dsimp only) <;> omega)).trans e2; have ze3 := fun z : Wd (Below w6.heap.size w6) => (z.h.cell (p := ⟨_, _, none⟩) (by (try dsimp only) <;> omega)).trans e3; have ze4 := fun z : Wd (Below w6.heap.size w6) => (z.h.cell (p := ⟨_, _, none⟩) (by (try dsimp only) <;> omega)).trans e4; have ze5 := fun z : Wd (Below w6.heap.size w6) => (z.h.cell (p := ⟨_, _, none⟩) (by (try dsimp only) <;> omega)).trans e5; have ze6 := fun z : Wd (Below w6.heap.size w6) => (z.h.cell (p := ⟨_, _, none⟩) (by (try dsimp only) <;> omega)).trans e6; have zrqa0 := fun z : Wd (Below w6.heap.size w6) => (z.h.cell (p := ⟨_, _, none⟩) (by (try dsimp only) <;> omega)).trans rqa0; have zrqa1 := fun z : Wd (Below w6.heap.size w6) => (z.h.cell (p := ⟨_, _, none⟩) (by (try dsimp only) <;> omega)).trans rqa1; have zrqa2 := fun z : Wd (Below w6.heap.size w6) => (z.h.cell (p := ⟨_, _, none⟩) (by (try dsimp only) <;> omega)).trans rqa2; have zrqa3 := fun z : Wd (Below w6.heap.size w6) => (z.h.cell (p := ⟨_, _, none⟩) (by (try dsimp only) <;> omega)).trans rqa3; have zrqa4 := fun z : Wd (Below w6.heap.size w6) => (z.h.cell (p := ⟨_, _, none⟩) (by (try dsimp only) <;> omega)).trans rqa4; have zrqa5 := fun z : Wd (Below w6.heap.size w6) => (z.h.cell (p := ⟨_, _, none⟩) (by (try dsimp only) <;> omega)).trans rqa5; have zrqa6 := fun z : Wd (Below w6.heap.size w6) => (z.h.cell (p := ⟨_, _, none⟩) (by (try dsimp only) <;> omega)).trans rqa6); (repeat (any_goals (first | go_big_quiet_step (((first | (go_at_call 27; (with_reducible refine (HCMP.out _ (hbA6.trans (Below.mono (Wd.h _) hbA6.size))).mono ?_); rintro e w' ⟨rfl, hbk⟩; exact ⟨rfl, ⟨w', Below.trans (Wd.h _) (hbk.mono (Below.size (Wd.h _)))⟩, rfl⟩)))) | (refine wpQuiet_step (fun K hK => ?_); go_simp; (first | (refine hK _ ?_; clear hK K) | (split <;> rename_i hg <;> (refine hK _ ?_; clear hK K) <;> (try simp only [Bool.not_eq_true] at hg) <;> (first | simp only [Int.not_lt.2 hg, decide_false] | simp only [Int.not_le.1 hg, decide_true] | simp only [hg, decide_true, decide_false] | skip)))))));  all_goals (refine wpQuiet_nil ?_; intro wq hgq))
        all_goals first
        | (exfalso; omega)
        | skip
        have HO7 := Lib.hid (HO6.out.below hgq)
        have HB7 := Lib.hid (HB6.out.trans (hgq.mono HB6.out.size))
        have hbA7 := hbA6.trans (hgq.mono hbA6.size)
        have hz7 := hgq.size
        clear ze0 ze1 ze2 ze3 ze4 ze5 ze6 zrqa0 zrqa1 zrqa2 zrqa3 zrqa4 zrqa5 zrqa6 e0 e1 e2 e3 e4 e5 e6 rqa0 rqa1 rqa2 rqa3 rqa4 rqa5 rqa6 hgq hnonemp
        by_cases hcv1 : cv = 0
        · have hrn : k + 1 ≤ n := by omega
          have hslF : ∀ W, (Instr.slice 22 (.slice (some ⟨b, off, none⟩) n c) (some (.int .i64 ((k + 1 : Nat) : Int))) none none).run Try.prog W = .ok (.slice (if c = k + 1 then (some ⟨b, off, none⟩) else ((some ⟨b, off, none⟩) : Option Addr).map (·.add ((k + 1) * 7))) (n - (k + 1)) (c - (k + 1))) W := fun W => run_slice_from (sz := 7) (by kernel_rfl) (by kernel_rfl) hrn W
          have hsF := Sl.dropG HS.out hrn
          obtain ⟨AF, hAF⟩ : ∃ AF : Option Addr, (if c = k + 1 then (some ⟨b, off, none⟩) else ((some ⟨b, off, none⟩) : Option Addr).map (·.add ((k + 1) * 7))) = AF := ⟨_, rfl⟩
          have hAF' : (if c = k + 1 then (some ⟨b, off, none⟩) else ((some ⟨b, off, none⟩) : Option Addr).map (·.add ((k + 1) * Flat.sz Tv))) = AF := hAF
          have hnilF : AF = none → c - (k + 1) = 0 := fun e => by
            have hcc := HNIL.out
            rw [← hAF] at e
            split at e
            · omega
            · cases e
          rw [hAF] at hslF
          rw [hAF'] at hsF
          obtain ⟨nf, hnf⟩ : ∃ nf, n - (k + 1) = nf := ⟨_, rfl⟩
          obtain ⟨cf, hcf⟩ : ∃ cf, c - (k + 1) = cf := ⟨_, rfl⟩
          rw [hnf, hcf] at hslF hsF
          rw [hcf] at hnilF
          have HSF := Lib.hid hsF
          have HNF := Lib.hid hnilF
          have hnfl : nf ≤ 1000 := by omega
          have HRES := Lib.hid (show repL Ts T = Ts.take k ++ [T] ++ Ts.drop (k + 1) by rw [repL, HP.out, HSM.out]; simp [hcv1])
          have hall := ((HA.out.take_ k).app (All2.snoc All2.nil_ HTD.out)).app (HA.out.drop_ (k + 1))
          have HALL := Lib.hid hall
          have hlen6 : (ts.take k ++ [t]).length ≤ 2000 := by simp; omega
          have HRL := Lib.hid (show (ts.take k ++ [t] ++ ts.drop (k + 1)).length ≤ 4096 by simp; have := HS.out.len; omega)
          clear hAF hAF' hnf hcf hsF hnilF hall
          push_cast at hslF
          go_upto_region 14 with (at_builtin; go_must (
            refine wpl_appendS _ rfl (.tmp 57) (.tmp 60) 22 rfl (wp).heap.size 32 _ 128 Try.underlying22 info_tar rfl _ (ts.take k ++ [t]) rfl HO7.out AF nf cf (ts.drop (k + 1)) rfl HNF.out (HSF.out.below hbA7) (by omega) (by omega) HB7.out.size ?_
            intro v8 w8 ho8 hu8
            have hb8 := hu8.belowBase HO7.out HB7.out HB7.out.size
            obtain ⟨A9, c9, hv9, hn9, hs9⟩ := ho8.slN
            obtain ⟨m9, hm9⟩ : ∃ m9, (ts.take k ++ [t] ++ ts.drop (k + 1)).length = m9 := ⟨_, rfl⟩
            rw [hm9] at hv9 hs9
            have hm9l : ¬ 4096 < m9 := by have := HRL.out; omega
            have HS9 := Lib.hid (And.intro hn9 hs9)
            have HB8 := Lib.hid hb8
            subst hv9
            clear ho8 hu8 hb8 hm9 hn9 hs9))
          go_wp2_with fail
          go_ret2
          have hbE := hbA.trans (HB8.out.mono hbA.size)
          rw [HQ.out, HRES.out]
          exact ⟨⟨A9, m9, c9, rfl, HS9.out.1, _, HS9.out.2, HALL.out.imp fun _ _ h => h.on hbE⟩, hbE⟩
        · have hrn : k ≤ n := by omega
          have hslF : ∀ W, (Instr.slice 22 (.slice (some ⟨b, off, none⟩) n c) (some (.int .i64 ((k : Nat) : Int))) none none).run Try.prog W = .ok (.slice (if c = k then (some ⟨b, off, none⟩) else ((some ⟨b, off, none⟩) : Option Addr).map (·.add ((k) * 7))) (n - (k)) (c - (k))) W := fun W => run_slice_from (sz := 7) (by kernel_rfl) (by kernel_rfl) hrn W
          have hsF := Sl.dropG HS.out hrn
          obtain ⟨AF, hAF⟩ : ∃ AF : Option Addr, (if c = k then (some ⟨b, off, none⟩) else ((some ⟨b, off, none⟩) : Option Addr).map (·.add ((k) * 7))) = AF := ⟨_, rfl⟩
          have hAF' : (if c = k then (some ⟨b, off, none⟩) else ((some ⟨b, off, none⟩) : Option Addr).map (·.add ((k) * Flat.sz Tv))) = AF := hAF
          have hnilF : AF = none → c - (k) = 0 := fun e => by
            have hcc := HNIL.out
            rw [← hAF] at e
            split at e
            · omega
            · cases e
          rw [hAF] at hslF
          rw [hAF'] at hsF
          obtain ⟨nf, hnf⟩ : ∃ nf, n - (k) = nf := ⟨_, rfl⟩
          obtain ⟨cf, hcf⟩ : ∃ cf, c - (k) = cf := ⟨_, rfl⟩
          rw [hnf, hcf] at hslF hsF
          rw [hcf] at hnilF
          have HSF := Lib.hid hsF
          have HNF := Lib.hid hnilF
          have hnfl : nf ≤ 1000 := by omega
          have HRES := Lib.hid (show repL Ts T = Ts.take k ++ [T] ++ Ts.drop (k) by rw [repL, HP.out, HSM.out]; simp [hcv1])
          have hall := ((HA.out.take_ k).app (All2.snoc All2.nil_ HTD.out)).app (HA.out.drop_ (k))
          have HALL := Lib.hid hall
          have hlen6 : (ts.take k ++ [t]).length ≤ 2000 := by simp; omega
          have HRL := Lib.hid (show (ts.take k ++ [t] ++ ts.drop (k)).length ≤ 4096 by simp; have := HS.out.len; omega)
          clear hAF hAF' hnf hcf hsF hnilF hall
          skip
          go_upto_region 14 with (at_builtin; go_must (
            refine wpl_appendS _ rfl (.tmp 57) (.tmp 60) 22 rfl (wp).heap.size 32 _ 128 Try.underlying22 info_tar rfl _ (ts.take k ++ [t]) rfl HO7.out AF nf cf (ts.drop (k)) rfl HNF.out (HSF.out.below hbA7) (by omega) (by omega) HB7.out.size ?_
            intro v8 w8 ho8 hu8
            have hb8 := hu8.belowBase HO7.out HB7.out HB7.out.size
            obtain ⟨A9, c9, hv9, hn9, hs9⟩ := ho8.slN
            obtain ⟨m9, hm9⟩ : ∃ m9, (ts.take k ++ [t] ++ ts.drop (k)).length = m9 := ⟨_, rfl⟩
            rw [hm9] at hv9 hs9
            have hm9l : ¬ 4096 < m9 := by have := HRL.out; omega
            have HS9 := Lib.hid (And.intro hn9 hs9)
            have HB8 := Lib.hid hb8
            subst hv9
            clear ho8 hu8 hb8 hm9 hn9 hs9))
          go_wp2_with fail
          go_ret2
          have hbE := hbA.trans (HB8.out.mono hbA.size)
          rw [HQ.out, HRES.out]
          exact ⟨⟨A9, m9, c9, rfl, HS9.out.1, _, HS9.out.2, HALL.out.imp fun _ _ h => h.on hbE⟩, hbE⟩
    · obtain rfl : n = k := by omega
      have hkn : ¬ ((n : Int) < (n : Int)) := by omega
      have hp : plc Ts T = n := (plc_end Ts T (by rw [HLen.out]; exact HK.out)).trans HLen.out
      have HP := Lib.hid hp
      have HSM := Lib.hid (show sameB Ts T = false by unfold sameB; rw [hp, List.getElem?_eq_none (by have := HLen.out; omega)])
      clear hp
      go_upto_region 7 with (fail)
      ((with_reducible refine wp_region_quiet_lit ?_ ?_ ?_); kernel_rfl; kernel_rfl; (repeat (any_goals (first | go_big_quiet_step (fail) | (refine wpQuiet_step (fun K hK => ?_); go_simp; (first | (refine hK _ ?_; clear hK K) | (split <;> rename_i hg <;> (refine hK _ ?_; clear hK K) <;> (try simp only [Bool.not_eq_true] at hg) <;> (first | simp only [Int.not_lt.2 hg, decide_false] | simp only [Int.not_le.1 hg, decide_true] | simp only [hg, decide_true, decide_false] | skip))))))); all_goals (refine wpQuiet_nil ?_; intro _ hw'; obtain ⟨nq, hw''⟩ := hw'; subst hw''))
      replace hbr := below_drewN hbr nq
      replace hbA := below_drewN hbA nq
      clear rqa0 rqa1 rqa2 rqa3 rqa4 rqa5 rqa6
      have hslT : ∀ W, (Instr.slice 22 (.slice A n c) none (some (.int .i64 (n : Int))) none).run Try.prog W = .ok (.slice A n c) W := fun W => run_slice_to (sz := 7) (by kernel_rfl) (by kernel_rfl) (by have := HS.out.le; omega) W
      have HST := Lib.hid (Sl.takeK HS.out (k := n) (by omega))
      have htl : (ts.take n).length ≤ 1000 := by rw [List.length_take]; omega
      have hbD : Below (wr.drewN nq).heap.size (wr.drewN nq) ((wr.drewN nq).alloc (.cells #[] 32)) := (Below.refl _ _).alloc (Nat.le_refl _) _
      go_upto_region 10 with (at_builtin; go_must (
        refine wpl_appendS _ rfl (.tmp 33) (.tmp 36) 22 rfl (wr.drewN nq).heap.size 32 _ 128 Try.underlying22 info_tar rfl (.slice (some ⟨(wr.drewN nq).heap.size, 0, none⟩) 0 0) ([] : List Tv) rfl (World.ownsRow_lit (wr.drewN nq) #[] 0 (Nat.le_refl _) (Nat.zero_le _) rfl) A n c (ts.take n) rfl HNIL.out (HST.out.below (hbA.trans (hbD.mono hbA.size))) (by simp; omega) (by omega) (by rw [alloc_size]; omega) ?_
        intro v5 w5 ho5 hu5
        have hb5 : Below (wr.drewN nq).heap.size (wr.drewN nq) w5 := hbD.grown hu5.grew (by rw [alloc_size]; omega) (fun j hj => by have h9 : some (wr.drewN nq).heap.size = some j := hj; injection h9 with h9; omega)
        rw [List.nil_append] at ho5
        have HO5 := Lib.hid ho5
        have HB5 := Lib.hid hb5
        clear ho5 hu5 hb5))
      have hb5 := hbr.trans (HB5.out.mono hbr.size)
      (have sqa0 := (hb5.cell (p := ⟨_, _, none⟩) (by (try dsimp only) <;> omega)).trans qa0; have sqa1 := (hb5.cell (p := ⟨_, _, none⟩) (by (try dsimp only) <;> omega)).trans qa1; have sqa2 := (hb5.cell (p := ⟨_, _, none⟩) (by (try dsimp only) <;> omega)).trans qa2; have sqa3 := (hb5.cell (p := ⟨_, _, none⟩) (by (try dsimp only) <;> omega)).trans qa3; have sqa4 := (hb5.cell (p := ⟨_, _, none⟩) (by (try dsimp only) <;> omega)).trans qa4; have sqa5 := (hb5.cell (p := ⟨_, _, none⟩) (by (try dsimp only) <;> omega)).trans qa5; have sqa6 := (hb5.cell (p := ⟨_, _, none⟩) (by (try dsimp only) <;> omega)).trans qa6)
      clear hb5 hbD
      go_upto_region 11 with (at_builtin; go_must (
        refine wpl_append1 _ rfl (.tmp 38) (.tmp 40) 22 rfl (wr.drewN nq).heap.size 32 _ 128 Try.underlying22 info_tar rfl _ (ts.take n) rfl (HO5.out.alloc _) _ t rfl (fun j u hu => cells_new _ _ _ _ _ (by simp) u hu) (by omega) (by omega) (by rw [alloc_size]; have := HB5.out.size; omega) ?_
        intro v6 w6 ho6 hu6
        have hb6 := hu6.belowBase (HO5.out.alloc _) (HB5.out.alloc HB5.out.size _) (by rw [alloc_size]; have := HB5.out.size; omega)
        have HO6 := Lib.hid ho6
        have HB6 := Lib.hid hb6
        clear ho6 hu6 hb6))
      have hbR6 := hbr.trans (HB6.out.mono hbr.size)
      have hbA6 := hbA.trans (HB6.out.mono hbA.size)
      clear sqa0 sqa1 sqa2 sqa3 sqa4 sqa5 sqa6
      ((with_reducible refine wp_region_quiet_lit ?_ ?_ ?_); kernel_rfl; kernel_rfl; (repeat (any_goals (first | go_big_quiet_step (fail) | (refine wpQuiet_step (fun K hK => ?_); go_simp; (first | (refine hK _ ?_; clear hK K) | (split <;> rename_i hg <;> (refine hK _ ?_; clear hK K) <;> (try simp only [Bool.not_eq_true] at hg) <;> (first | simp only [Int.not_lt.2 hg, decide_false] | simp only [Int.not_le.1 hg, decide_true] | simp only [hg, decide_true, decide_false] | skip))))))); all_goals (refine wpQuiet_nil ?_; intro _ hw'; obtain ⟨nq, hw''⟩ := hw'; subst hw''))
      have HO7 := Lib.hid (HO6.out.drewN nq)
      have HB7 := Lib.hid (below_drewN HB6.out nq)
      have hbA7 := below_drewN hbA6 nq
      have hrn : n ≤ n := by omega
      have hslF : ∀ W, (Instr.slice 22 (.slice A n c) (some (.int .i64 ((n : Nat) : Int))) none none).run Try.prog W = .ok (.slice (if c = n then A else (A : Option Addr).map (·.add ((n) * 7))) (n - (n)) (c - (n))) W := fun W => run_slice_from (sz := 7) (by kernel_rfl) (by kernel_rfl) hrn W
      have hsF := Sl.dropG HS.out hrn
      obtain ⟨AF, hAF⟩ : ∃ AF : Option Addr, (if c = n then A else (A : Option Addr).map (·.add ((n) * 7))) = AF := ⟨_, rfl⟩
      have hAF' : (if c = n then A else (A : Option Addr).map (·.add ((n) * Flat.sz Tv))) = AF := hAF
      have hnilF : AF = none → c - (n) = 0 := fun e => by
        have hcc := HNIL.out
        rw [← hAF] at e
        split at e
        · omega
        · cases A <;> simp at e <;> (have := HS.out.le; have := hcc rfl; omega)
      rw [hAF] at hslF
      rw [hAF'] at hsF
      obtain ⟨nf, hnf⟩ : ∃ nf, n - (n) = nf := ⟨_, rfl⟩
      obtain ⟨cf, hcf⟩ : ∃ cf, c - (n) = cf := ⟨_, rfl⟩
      rw [hnf, hcf] at hslF hsF
      rw [hcf] at hnilF
      have HSF := Lib.hid hsF
      have HNF := Lib.hid hnilF
      have hnfl : nf ≤ 1000 := by omega
      have HRES := Lib.hid (show repL Ts T = Ts.take n ++ [T] ++ Ts.drop (n) by rw [repL, HP.out, HSM.out]; simp)
      have hall := ((HA.out.take_ n).app (All2.snoc All2.nil_ HTD.out)).app (HA.out.drop_ (n))
      have HALL := Lib.hid hall
      have hlen6 : (ts.take n ++ [t]).length ≤ 2000 := by simp; omega
      have HRL := Lib.hid (show (ts.take n ++ [t] ++ ts.drop (n)).length ≤ 4096 by simp; have := HS.out.len; omega)
      clear hAF hAF' hnf hcf hsF hnilF hall
      skip
      go_upto_region 14 with (at_builtin; go_must (
        refine wpl_appendS _ rfl (.tmp 57) (.tmp 60) 22 rfl (wr.drewN nq).heap.size 32 _ 128 Try.underlying22 info_tar rfl _ (ts.take n ++ [t]) rfl HO7.out AF nf cf (ts.drop (n)) rfl HNF.out (HSF.out.below hbA7) (by omega) (by omega) HB7.out.size ?_
        intro v8 w8 ho8 hu8
        have hb8 := hu8.belowBase HO7.out HB7.out HB7.out.size
        obtain ⟨A9, c9, hv9, hn9, hs9⟩ := ho8.slN
        obtain ⟨m9, hm9⟩ : ∃ m9, (ts.take n ++ [t] ++ ts.drop (n)).length = m9 := ⟨_, rfl⟩
        rw [hm9] at hv9 hs9
        have hm9l : ¬ 4096 < m9 := by have := HRL.out; omega
        have HS9 := Lib.hid (And.intro hn9 hs9)
        have HB8 := Lib.hid hb8
        subst hv9
        clear ho8 hu8 hb8 hm9 hn9 hs9))
      go_wp2_with fail
      go_ret2
      have hbE := hbA.trans (HB8.out.mono hbA.size)
      rw [HQ.out, HRES.out]
      exact ⟨⟨A9, m9, c9, rfl, HS9.out.1, _, HS9.out.2, HALL.out.imp fun _ _ h => h.on hbE⟩, hbE⟩
end Cv
end Go.Proofs.Ytdnnnajohdohaaa
