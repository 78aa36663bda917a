/-
  Tariffs: equal lists of texts, steps, rates, bands; Tariffs: equal expressions, tariffs, lists of tariffs. No condition.
-/
import Derived.Test.YtdnnnajohdohaaaT8Z
import Derived.BigQuiet
import Derived.StillTailTactics
import Derived.Lib.Overlaps
import Derived.Deep.DeepCutAuto
import Derived.Deep.RegionWith
import Derived.Laws.RangeAny
set_option maxRecDepth 100000
set_option linter.unusedVariables false
set_option linter.unusedSimpArgs false
namespace Go.Proofs.Ytdnnnajohdohaaa
open Go.RowKit

namespace Cv
open Xp Ck
set_option maxHeartbeats 4000000 in
theorem sametexts_any (A : Option Addr) (n c : Nat) (B : Option Addr) (m d : Nat) (xs : List ByteArray) (w : World) (h : Sl w A n c xs) (k : Sl w B m d xs) :
    Calls Try.prog 29 #[.slice A n c, .slice B m d] w fun e w' => e = .returned (.bool true) ∧ Below w.heap.size w w' := by
  obtain rfl : n = m := by rw [← h.len, k.len]
  have hn := h.nmax
  have H := Lib.hid h
  have K := Lib.hid k
  clear h k
  go_enter Try.func29, Try.ntmps29
  go_wp2_with fail
  go_loopw [5] (fun i wr => ∃ k : Nat, k ≤ n ∧ i = .int .i64 k ∧ Below w.heap.size w wr) (fun i _ => n - (intOf i).toNat)
  case atStart => exact ⟨0, Nat.zero_le _, rfl, Below.refl _ _⟩
  case round =>
    obtain ⟨k, hk, rfl, hbr⟩ := hrel
    by_cases hlt : k < n
    · obtain ⟨b, off, rfl, hbl, hcells⟩ := Sl.one rfl (H.out.below hbr) (by omega)
      obtain ⟨b', off', rfl, hbl', hcells'⟩ := Sl.one rfl (K.out.below hbr) (by omega)
      obtain ⟨x, hx⟩ := H.out.get hlt
      have e0 : wr.cell? ⟨b, off + k, none⟩ = some (.string x) := hcells k x _ hx rfl
      have f0 : wr.cell? ⟨b', off' + k, none⟩ = some (.string x) := hcells' k x _ hx rfl
      clear hcells hcells' hx
      go_upto_region 6 with (fail)
      ((with_reducible refine wp_region_quiet_lit ?_ ?_ ?_); kernel_rfl; kernel_rfl; (repeat (any_goals (first | go_big_quiet_step (fail) | (refine wpQuiet_step (fun K hK => ?_); go_simp; (first | (refine hK _ ?_; clear hK K) | (split <;> rename_i hg <;> (refine hK _ ?_; clear hK K) <;> (try simp only [Bool.not_eq_true] at hg) <;> (first | simp only [Int.not_lt.2 hg, decide_false] | simp only [Int.not_le.1 hg, decide_true] | simp only [hg, decide_true, decide_false] | skip))))))); all_goals (refine wpQuiet_nil ?_; intro _ hw'; obtain ⟨nq, hw''⟩ := hw'; subst hw''))
      all_goals
        go_wp2_with fail
        go_roundw
        case rel => exact ⟨k + 1, by omega, by go_num, below_drewN hbr _⟩
        case measure => simp [intOf]; omega
    · obtain rfl : n = k := by omega
      have hkn : ¬ ((n : Int) < (n : Int)) := by omega
      go_wp2_with fail
      go_ret
      exact ⟨rfl, hbr⟩
set_option maxHeartbeats 4000000 in
theorem samesteps_any (A : Option Addr) (n c : Nat) (B : Option Addr) (m d : Nat) (xs : List Stp) (w : World) (h : Sl w A n c xs) (k : Sl w B m d xs) :
    Calls Try.prog 71 #[.slice A n c, .slice B m d] w fun e w' => e = .returned (.bool true) ∧ Below w.heap.size w w' := by
  obtain rfl : n = m := by rw [← h.len, k.len]
  have hn := h.nmax
  have H := Lib.hid h
  have K := Lib.hid k
  clear h k
  go_enter Try.func71, Try.ntmps71
  go_wp2_with fail
  go_loopw [5] (fun i wr => ∃ k : Nat, k ≤ n ∧ i = .int .i64 k ∧ Below w.heap.size w wr) (fun i _ => n - (intOf i).toNat)
  case atStart => exact ⟨0, Nat.zero_le _, rfl, Below.refl _ _⟩
  case round =>
    obtain ⟨k, hk, rfl, hbr⟩ := hrel
    by_cases hlt : k < n
    · obtain ⟨b, off, rfl, hbl, hcells⟩ := H.out.baseIn hbr (by omega)
      obtain ⟨b', off', rfl, hbl', hcells'⟩ := K.out.baseIn hbr (by omega)
      obtain ⟨x, hx⟩ := H.out.get hlt
      have e0 : wr.cell? ⟨b, off + k * 3, none⟩ = some (.int .i64 x.upto) := Sl.at_ hcells hx 0 rfl
      have e1 : wr.cell? ⟨b, off + k * 3 + 1, none⟩ = some (.int .i64 x.quantum) := Sl.at_ hcells hx 1 rfl
      have e2 : wr.cell? ⟨b, off + k * 3 + 2, none⟩ = some (.int .i64 x.price) := Sl.at_ hcells hx 2 rfl
      have f0 : wr.cell? ⟨b', off' + k * 3, none⟩ = some (.int .i64 x.upto) := Sl.at_ hcells' hx 0 rfl
      have f1 : wr.cell? ⟨b', off' + k * 3 + 1, none⟩ = some (.int .i64 x.quantum) := Sl.at_ hcells' hx 1 rfl
      have f2 : wr.cell? ⟨b', off' + k * 3 + 2, none⟩ = some (.int .i64 x.price) := Sl.at_ hcells' hx 2 rfl
      clear hcells hcells' hx
      go_upto_region 6 with (fail)
      ((with_reducible refine wp_region_quiet_lit ?_ ?_ ?_); kernel_rfl; kernel_rfl; (repeat (any_goals (first | go_big_quiet_step (fail) | (refine wpQuiet_step (fun K hK => ?_); go_simp; (first | (refine hK _ ?_; clear hK K) | (split <;> rename_i hg <;> (refine hK _ ?_; clear hK K) <;> (try simp only [Bool.not_eq_true] at hg) <;> (first | simp only [Int.not_lt.2 hg, decide_false] | simp only [Int.not_le.1 hg, decide_true] | simp only [hg, decide_true, decide_false] | skip))))))); all_goals (refine wpQuiet_nil ?_; intro _ hw'; obtain ⟨nq, hw''⟩ := hw'; subst hw''))
      all_goals
        go_wp2_with fail
        go_roundw
        case rel => exact ⟨k + 1, by omega, by go_num, below_drewN hbr _⟩
        case measure => simp [intOf]; omega
    · obtain rfl : n = k := by omega
      have hkn : ¬ ((n : Int) < (n : Int)) := by omega
      go_wp2_with fail
      go_ret
      exact ⟨rfl, hbr⟩
set_option maxHeartbeats 8000000 in
theorem samerate_any (x y : Rt) (d : Rd) (w : World) (hx : RR w x d) (hy : RR w y d) :
    Calls Try.prog 50 #[.agg #[.int .i64 x.kind, .string x.zone, .string x.band, .int .i64 x.setup, .slice x.A x.n x.c], .agg #[.int .i64 y.kind, .string y.zone, .string y.band, .int .i64 y.setup, .slice y.A y.n y.c]] w fun e w' => e = .returned (.bool true) ∧ Below w.heap.size w w' := by
  obtain ⟨kind, zone, band, setup, A, n, c⟩ := x
  obtain ⟨kind', zone', band', setup', B, m, e⟩ := y
  obtain ⟨h1, h2, h3, h4, _, h5⟩ := hx
  obtain ⟨k1, k2, k3, k4, _, k5⟩ := hy
  dsimp only at h1 h2 h3 h4 h5 k1 k2 k3 k4 k5 ⊢
  subst h1 h2 h3 h4 k1 k2 k3 k4
  have H := Lib.hid (fun w' (hb : Below w.heap.size w w') => samesteps_any A n c B m e d.steps w' (h5.below hb) (k5.below hb))
  clear h5 k5
  go_enter Try.func50, Try.ntmps50
  go_upto_region 1 with (fail)
  (obtain ⟨W, hWW, hbW, hzW, f1W, f2W, qfa, qfb⟩ := box2 w #[.int .i64 d.kind, .string d.zone, .string d.band, .int .i64 d.setup, .slice A n c] 73 #[.int .i64 d.kind, .string d.zone, .string d.band, .int .i64 d.setup, .slice B m e] 73; rw [← hWW]; have qa0 : W.cell? ⟨w.heap.size, 0, none⟩ = some (.int .i64 d.kind) := f1W 0 _ rfl; have qa1 : W.cell? ⟨w.heap.size, 1, none⟩ = some (.string d.zone) := f1W 1 _ rfl; have qa2 : W.cell? ⟨w.heap.size, 2, none⟩ = some (.string d.band) := f1W 2 _ rfl; have qa3 : W.cell? ⟨w.heap.size, 3, none⟩ = some (.int .i64 d.setup) := f1W 3 _ rfl; have qa4 : W.cell? ⟨w.heap.size, 4, none⟩ = some (.slice A n c) := f1W 4 _ rfl; have qb0 : W.cell? ⟨w.heap.size + 1, 0, none⟩ = some (.int .i64 d.kind) := f2W 0 _ rfl; have qb1 : W.cell? ⟨w.heap.size + 1, 1, none⟩ = some (.string d.zone) := f2W 1 _ rfl; have qb2 : W.cell? ⟨w.heap.size + 1, 2, none⟩ = some (.string d.band) := f2W 2 _ rfl; have qb3 : W.cell? ⟨w.heap.size + 1, 3, none⟩ = some (.int .i64 d.setup) := f2W 3 _ rfl; have qb4 : W.cell? ⟨w.heap.size + 1, 4, none⟩ = some (.slice B m e) := f2W 4 _ rfl; clear hWW f1W f2W)
  go_wp2_with fail
  refine (H.out _ hbW).mono ?_
  rintro r w2 ⟨rfl, hb2⟩
  go_wp2_with fail
  go_ret
  exact ⟨rfl, hbW.trans (hb2.mono hbW.size)⟩
set_option maxHeartbeats 8000000 in
theorem samerates_any (A : Option Addr) (n c : Nat) (B : Option Addr) (m d : Nat) (rs : List Rd) (w : World) (h : LS RR w A n c rs) (k : LS RR w B m d rs) :
    Calls Try.prog 32 #[.slice A n c, .slice B m d] w fun e w' => e = .returned (.bool true) ∧ Below w.heap.size w w' := by
  obtain rfl : n = m := by rw [← h.len, k.len]
  obtain ⟨_, xs, hs, ha⟩ := h
  obtain ⟨_, ys, ks, ka⟩ := k
  have hn := hs.nmax
  have H := Lib.hid hs
  have K := Lib.hid ks
  have HA := Lib.hid ha
  have KA := Lib.hid ka
  clear hs ks ha ka
  go_enter Try.func32, Try.ntmps32
  go_wp2_with fail
  go_loopw [5] (fun i wr => ∃ k : Nat, k ≤ n ∧ i = .int .i64 k ∧ Below w.heap.size w wr) (fun i _ => n - (intOf i).toNat)
  case atStart => exact ⟨0, Nat.zero_le _, rfl, Below.refl _ _⟩
  case round =>
    obtain ⟨k, hk, rfl, hbr⟩ := hrel
    by_cases hlt : k < n
    · obtain ⟨b, off, rfl, hbl, hcells⟩ := H.out.baseIn hbr (by omega)
      obtain ⟨b', off', rfl, hbl', hcells'⟩ := K.out.baseIn hbr (by omega)
      obtain ⟨x, hx⟩ := H.out.get hlt
      obtain ⟨y, hy⟩ := K.out.get hlt
      obtain ⟨q, hq, hxq⟩ := HA.out.at_ hx
      have hyq := KA.out.2 k y q hy hq
      (have e0 : wr.cell? ⟨b, off + k * 5, none⟩ = some (.int .i64 x.kind) := Sl.at_ hcells hx 0 rfl; have e1 : wr.cell? ⟨b, off + k * 5 + 1, none⟩ = some (.string x.zone) := Sl.at_ hcells hx 1 rfl; have e2 : wr.cell? ⟨b, off + k * 5 + 2, none⟩ = some (.string x.band) := Sl.at_ hcells hx 2 rfl; have e3 : wr.cell? ⟨b, off + k * 5 + 3, none⟩ = some (.int .i64 x.setup) := Sl.at_ hcells hx 3 rfl; have e4 : wr.cell? ⟨b, off + k * 5 + 4, none⟩ = some (.slice x.A x.n x.c) := Sl.at_ hcells hx 4 rfl)
      have f0 : wr.cell? ⟨b', off' + k * 5, none⟩ = some (.int .i64 y.kind) := Sl.at_ hcells' hy 0 rfl
      have f1 : wr.cell? ⟨b', off' + k * 5 + 1, none⟩ = some (.string y.zone) := Sl.at_ hcells' hy 1 rfl
      have f2 : wr.cell? ⟨b', off' + k * 5 + 2, none⟩ = some (.string y.band) := Sl.at_ hcells' hy 2 rfl
      have f3 : wr.cell? ⟨b', off' + k * 5 + 3, none⟩ = some (.int .i64 y.setup) := Sl.at_ hcells' hy 3 rfl
      have f4 : wr.cell? ⟨b', off' + k * 5 + 4, none⟩ = some (.slice y.A y.n y.c) := Sl.at_ hcells' hy 4 rfl
      have HC := Lib.hid (fun w3 (h3 : Below w.heap.size w w3) => samerate_any x y q w3 (hxq.on h3) (hyq.on h3))
      have hb1 : b < wr.heap.size := Nat.lt_of_lt_of_le hbl hbr.size
      have hb2 : b' < wr.heap.size := Nat.lt_of_lt_of_le hbl' hbr.size
      clear hcells hcells' hx hy hq hxq hyq
      go_upto_region 6 with (fail)
      ((with_reducible refine wp_region_class (Below wr.heap.size wr) ?_ ?_ ?_ ?_); kernel_rfl; kernel_rfl; (exact (Below.refl _ _).drew); (intro hnonemp); (have ze0 := fun z : Wd (Below wr.heap.size wr) => (z.h.cell (p := ⟨_, _, none⟩) (by (try dsimp only) <;> omega)).trans e0; have ze1 := fun z : Wd (Below wr.heap.size wr) => (z.h.cell (p := ⟨_, _, none⟩) (by (try dsimp only) <;> omega)).trans e1; have ze2 := fun z : Wd (Below wr.heap.size wr) => (z.h.cell (p := ⟨_, _, none⟩) (by (try dsimp only) <;> omega)).trans e2; have ze3 := fun z : Wd (Below wr.heap.size wr) => (z.h.cell (p := ⟨_, _, none⟩) (by (try dsimp only) <;> omega)).trans e3; have ze4 := fun z : Wd (Below wr.heap.size wr) => (z.h.cell (p := ⟨_, _, none⟩) (by (try dsimp only) <;> omega)).trans e4; have zf0 := fun z : Wd (Below wr.heap.size wr) => (z.h.cell (p := ⟨_, _, none⟩) (by (try dsimp only) <;> omega)).trans f0; have zf1 := fun z : Wd (Below wr.heap.size wr) => (z.h.cell (p := ⟨_, _, none⟩) (by (try dsimp only) <;> omega)).trans f1; have zf2 := fun z : Wd (Below wr.heap.size wr) => (z.h.cell (p := ⟨_, _, none⟩) (by (try dsimp only) <;> omega)).trans f2; have zf3 := fun z : Wd (Below wr.heap.size wr) => (z.h.cell (p := ⟨_, _, none⟩) (by (try dsimp only) <;> omega)).trans f3; have zf4 := fun z : Wd (Below wr.heap.size wr) => (z.h.cell (p := ⟨_, _, none⟩) (by (try dsimp only) <;> omega)).trans f4); (repeat (any_goals (first | go_big_quiet_step (((first | (go_at_call 50; (with_reducible refine (HC.out _ (hbr.trans (Below.mono (Wd.h _) hbr.size))).mono ?_); rintro e w' ⟨rfl, hbk⟩; exact ⟨rfl, ⟨w', Below.trans (Wd.h _) (hbk.mono (Below.size (Wd.h _)))⟩, rfl⟩)))) | (refine wpQuiet_step (fun K hK => ?_); go_simp; (first | (refine hK _ ?_; clear hK K) | (split <;> rename_i hg <;> (refine hK _ ?_; clear hK K) <;> (try simp only [Bool.not_eq_true] at hg) <;> (first | simp only [Int.not_lt.2 hg, decide_false] | simp only [Int.not_le.1 hg, decide_true] | simp only [hg, decide_true, decide_false] | skip)))))));  all_goals (refine wpQuiet_nil ?_; intro wq hgq))
      all_goals
        replace hbr := hbr.trans (hgq.mono hbr.size)
        go_wp2_with fail
        go_roundw
        case rel => exact ⟨k + 1, by omega, by go_num, hbr⟩
        case measure => simp [intOf]; omega
    · obtain rfl : n = k := by omega
      have hkn : ¬ ((n : Int) < (n : Int)) := by omega
      go_wp2_with fail
      go_ret
      exact ⟨rfl, hbr⟩
set_option maxHeartbeats 8000000 in
theorem samebands_any (A : Option Addr) (n c : Nat) (B : Option Addr) (m d : Nat) (rs : List Bd) (w : World) (h : LS BR w A n c rs) (k : LS BR w B m d rs) :
    Calls Try.prog 31 #[.slice A n c, .slice B m d] w fun e w' => e = .returned (.bool true) ∧ Below w.heap.size w w' := by
  obtain rfl : n = m := by rw [← h.len, k.len]
  obtain ⟨_, xs, hs, ha⟩ := h
  obtain ⟨_, ys, ks, ka⟩ := k
  have hn := hs.nmax
  have H := Lib.hid hs
  have K := Lib.hid ks
  have HA := Lib.hid ha
  have KA := Lib.hid ka
  clear hs ks ha ka
  go_enter Try.func31, Try.ntmps31
  go_wp2_with fail
  go_loopw [5] (fun i wr => ∃ k : Nat, k ≤ n ∧ i = .int .i64 k ∧ Below w.heap.size w wr) (fun i _ => n - (intOf i).toNat)
  case atStart => exact ⟨0, Nat.zero_le _, rfl, Below.refl _ _⟩
  case round =>
    obtain ⟨k, hk, rfl, hbr⟩ := hrel
    by_cases hlt : k < n
    · obtain ⟨b, off, rfl, hbl, hcells⟩ := H.out.baseIn hbr (by omega)
      obtain ⟨b', off', rfl, hbl', hcells'⟩ := K.out.baseIn hbr (by omega)
      obtain ⟨x, hx⟩ := H.out.get hlt
      obtain ⟨y, hy⟩ := K.out.get hlt
      obtain ⟨q, hq, hxq⟩ := HA.out.at_ hx
      have hyq := KA.out.2 k y q hy hq
      have e0 : wr.cell? ⟨b, off + k * 2, none⟩ = some (.string q.1) := by rw [← hxq.1]; exact Sl.at_ hcells hx 0 rfl
      have f0 : wr.cell? ⟨b', off' + k * 2, none⟩ = some (.string q.1) := by rw [← hyq.1]; exact Sl.at_ hcells' hy 0 rfl
      have e1 : wr.cell? ⟨b, off + k * 2 + 1, none⟩ = some (.slice x.A x.n x.c) := Sl.at_ hcells hx 1 rfl
      have f1 : wr.cell? ⟨b', off' + k * 2 + 1, none⟩ = some (.slice y.A y.n y.c) := Sl.at_ hcells' hy 1 rfl
      have S1 := Lib.hid hxq.2.2.2
      have S2 := Lib.hid hyq.2.2.2
      have hxy : y.n = x.n := by rw [← hxq.2.2.2.len, hyq.2.2.2.len]
      rw [hxy] at f1 S2
      have hb1 : b < wr.heap.size := Nat.lt_of_lt_of_le hbl hbr.size
      have hb2 : b' < wr.heap.size := Nat.lt_of_lt_of_le hbl' hbr.size
      have hxn := S1.out.nmax
      clear hcells hcells' hx hy hq hxq hyq hxy
      go_upto_region 6 with (fail)
      ((with_reducible refine wp_region_quiet_lit ?_ ?_ ?_); kernel_rfl; kernel_rfl; (repeat (any_goals (first | go_big_quiet_step (fail) | (refine wpQuiet_step (fun K hK => ?_); go_simp; (first | (refine hK _ ?_; clear hK K) | (split <;> rename_i hg <;> (refine hK _ ?_; clear hK K) <;> (try simp only [Bool.not_eq_true] at hg) <;> (first | simp only [Int.not_lt.2 hg, decide_false] | simp only [Int.not_le.1 hg, decide_true] | simp only [hg, decide_true, decide_false] | skip))))))); all_goals (refine wpQuiet_nil ?_; intro _ hw'; obtain ⟨nq, hw''⟩ := hw'; subst hw''))
      replace hbr := below_drewN hbr nq
      have hwr : wr.heap.size ≤ (wr.drewN nq).heap.size := Nat.le_refl _
      replace e1 : (wr.drewN nq).cell? ⟨b, off + k * 2 + 1, none⟩ = some (.slice x.A x.n x.c) := e1
      replace f1 : (wr.drewN nq).cell? ⟨b', off' + k * 2 + 1, none⟩ = some (.slice y.A x.n y.c) := f1
      replace hb1 : b < (wr.drewN nq).heap.size := hb1
      replace hb2 : b' < (wr.drewN nq).heap.size := hb2
      clear e0 f0
      generalize wr.drewN nq = wz at *
      go_wp2_with fail
      go_loopw [6] (fun i wi => ∃ j : Nat, j ≤ x.n ∧ i = .int .i64 j ∧ Below wz.heap.size wz wi) (fun i _ => x.n - (intOf i).toNat)
      case atStart => exact ⟨0, Nat.zero_le _, rfl, Below.refl _ _⟩
      case round =>
        obtain ⟨j, hj, rfl, hbi⟩ := hrel
        have g1 := (hbi.cell (p := ⟨_, _, none⟩) (by (try dsimp only) <;> omega)).trans e1
        have g2 := (hbi.cell (p := ⟨_, _, none⟩) (by (try dsimp only) <;> omega)).trans f1
        have hbA := hbr.trans (hbi.mono hbr.size)
        by_cases hlj : j < x.n
        · obtain ⟨bb, of1, hA1, hbb, hcells⟩ := S1.out.baseIn hbA (by omega)
          obtain ⟨bb', of2, hA2, hbb', hcells'⟩ := S2.out.baseIn hbA (by omega)
          obtain ⟨u, hu⟩ := S1.out.get hlj
          rw [hA1] at g1
          rw [hA2] at g2
          have u0 := Sl.at_ hcells hu 0 rfl
          have u1 := Sl.at_ hcells hu 1 rfl
          have u2 := Sl.at_ hcells hu 2 rfl
          have v0 := Sl.at_ hcells' hu 0 rfl
          have v1 := Sl.at_ hcells' hu 1 rfl
          have v2 := Sl.at_ hcells' hu 2 rfl
          rw [show Flat.sz Slt = 3 from rfl] at u0 u1 u2 v0 v1 v2
          rw [Nat.add_zero] at u0 v0
          clear hcells hcells' hu hA1 hA2
          go_upto_region 11 with (fail)
          ((with_reducible refine wp_region_quiet_lit ?_ ?_ ?_); kernel_rfl; kernel_rfl; (repeat (any_goals (first | go_big_quiet_step (fail) | (refine wpQuiet_step (fun K hK => ?_); go_simp; (first | (refine hK _ ?_; clear hK K) | (split <;> rename_i hg <;> (refine hK _ ?_; clear hK K) <;> (try simp only [Bool.not_eq_true] at hg) <;> (first | simp only [Int.not_lt.2 hg, decide_false] | simp only [Int.not_le.1 hg, decide_true] | simp only [hg, decide_true, decide_false] | skip))))))); all_goals (refine wpQuiet_nil ?_; intro _ hw'; obtain ⟨nq, hw''⟩ := hw'; subst hw''))
          all_goals
            go_wp2_with fail
            go_roundw
            case rel => exact ⟨j + 1, by omega, by go_num, below_drewN hbi _⟩
            case measure => simp [intOf]; omega
        · obtain rfl : x.n = j := by omega
          have hkn : ¬ ((x.n : Int) < (x.n : Int)) := by omega
          go_wp2_with fail
          go_roundw
          case rel => exact ⟨k + 1, by omega, by go_num, hbA⟩
          case measure => simp [intOf]; omega
    · obtain rfl : n = k := by omega
      have hkn : ¬ ((n : Int) < (n : Int)) := by omega
      go_wp2_with fail
      go_ret
      exact ⟨rfl, hbr⟩
end Cv
namespace Cv
open Xp Ck
set_option maxHeartbeats 8000000 in
theorem sameexpr_from {w : World} {e : Ex} {x : It} (h : Rp w e x) : ∀ y : It, Rp w e y → ∀ w', Below w.heap.size w w' → Calls Try.prog 30 #[x.val, y.val] w' fun r w'' => r = .returned (.bool true) ∧ Below w'.heap.size w' w'' := by
  induction h with
  | mk op num text args A n c items hsl hl hnil hc ih =>
    intro y hy w' hb
    obtain ⟨op', num', text', args', B, m, d, items', he, rfl, hsl', hl', _, hc'⟩ := hy.inv
    cases he
    obtain rfl : n = m := by rw [← hsl.len, ← hsl'.len, hl, hl']
    have IH := Lib.hid ih
    have HS := Lib.hid hsl
    have KS := Lib.hid hsl'
    have HL := Lib.hid hl
    have KC := Lib.hid hc'
    have hn := hsl.nmax
    have hlen := hsl.len
    clear ih hsl hl hnil hc hsl' hl' hc' hy
    unfold It.val
    go_enter Try.func30, Try.ntmps30
    go_upto_region 1 with (fail)
    (obtain ⟨W, hWW, hbW, hzW, f1W, f2W, qfa, qfb⟩ := box2 w' #[.int .i64 op, .int .i64 num, .string text, .slice A n c] 60 #[.int .i64 op, .int .i64 num, .string text, .slice B n d] 60; rw [← hWW]; have qa0 : W.cell? ⟨w'.heap.size, 0, none⟩ = some (.int .i64 op) := f1W 0 _ rfl; have qa1 : W.cell? ⟨w'.heap.size, 1, none⟩ = some (.int .i64 num) := f1W 1 _ rfl; have qa2 : W.cell? ⟨w'.heap.size, 2, none⟩ = some (.string text) := f1W 2 _ rfl; have qa3 : W.cell? ⟨w'.heap.size, 3, none⟩ = some (.slice A n c) := f1W 3 _ rfl; have qb0 : W.cell? ⟨w'.heap.size + 1, 0, none⟩ = some (.int .i64 op) := f2W 0 _ rfl; have qb1 : W.cell? ⟨w'.heap.size + 1, 1, none⟩ = some (.int .i64 num) := f2W 1 _ rfl; have qb2 : W.cell? ⟨w'.heap.size + 1, 2, none⟩ = some (.string text) := f2W 2 _ rfl; have qb3 : W.cell? ⟨w'.heap.size + 1, 3, none⟩ = some (.slice B n d) := f2W 3 _ rfl; clear hWW f1W f2W)
    go_wp2_with fail
    go_loopw [5] (fun i wr => ∃ (k : Nat), k ≤ n ∧ i = .int .i64 k ∧ Below W.heap.size W wr) (fun i _ => n - (intOf i).toNat)
    case atStart => exact ⟨0, Nat.zero_le _, rfl, Below.refl _ _⟩
    case round =>
      obtain ⟨k, hk, rfl, hbr⟩ := hrel
      have hzr := hbr.size
      (have rqa3 := (hbr.cell (p := ⟨_, _, none⟩) (by (try dsimp only) <;> omega)).trans qa3; have rqb3 := (hbr.cell (p := ⟨_, _, none⟩) (by (try dsimp only) <;> omega)).trans qb3)
      have hbA := hb.trans ((hbW.trans (hbr.mono hbW.size)).mono hb.size)
      by_cases hlt : k < n
      · obtain ⟨y, hy⟩ := HS.out.get hlt
        obtain ⟨z, hz⟩ := KS.out.get hlt
        obtain ⟨e, he⟩ : ∃ e, args[k]? = some e := ⟨args[k]'(by have := HL.out; omega), List.getElem?_eq_getElem _⟩
        obtain ⟨b, off, hAe, hbw, hcells⟩ := HS.out.baseIn hbA (by omega)
        obtain ⟨b', off', hBe, hbw', hcells'⟩ := KS.out.baseIn hbA (by omega)
        subst hAe hBe
        have c0 : wr.cell? ⟨b, off + k * 4, none⟩ = some (.int .i64 y.op) := Sl.at_ hcells hy 0 rfl
        have c1 : wr.cell? ⟨b, off + k * 4 + 1, none⟩ = some (.int .i64 y.num) := Sl.at_ hcells hy 1 rfl
        have c2 : wr.cell? ⟨b, off + k * 4 + 2, none⟩ = some (.string y.text) := Sl.at_ hcells hy 2 rfl
        have c3 : wr.cell? ⟨b, off + k * 4 + 3, none⟩ = some (.slice y.A y.n y.c) := Sl.at_ hcells hy 3 rfl
        have d0 : wr.cell? ⟨b', off' + k * 4, none⟩ = some (.int .i64 z.op) := Sl.at_ hcells' hz 0 rfl
        have d1 : wr.cell? ⟨b', off' + k * 4 + 1, none⟩ = some (.int .i64 z.num) := Sl.at_ hcells' hz 1 rfl
        have d2 : wr.cell? ⟨b', off' + k * 4 + 2, none⟩ = some (.string z.text) := Sl.at_ hcells' hz 2 rfl
        have d3 : wr.cell? ⟨b', off' + k * 4 + 3, none⟩ = some (.slice z.A z.n z.c) := Sl.at_ hcells' hz 3 rfl
        have HC := Lib.hid (IH.out k y e hy he z (KC.out k z e hz he))
        unfold It.val at HC
        have hb1 : b < wr.heap.size := Nat.lt_of_lt_of_le hbw hbA.size
        have hb2 : b' < wr.heap.size := Nat.lt_of_lt_of_le hbw' hbA.size
        have hg : w'.heap.size + 1 < wr.heap.size := by omega
        clear hcells hy he hcells' hz
        go_upto_region 6 with (fail)
        ((with_reducible refine wp_region_class (Below wr.heap.size wr) ?_ ?_ ?_ ?_); kernel_rfl; kernel_rfl; (exact (Below.refl _ _).drew); (intro hnonemp); (have zc0 := fun z : Wd (Below wr.heap.size wr) => (z.h.cell (p := ⟨_, _, none⟩) (by (try dsimp only) <;> omega)).trans c0; have zc1 := fun z : Wd (Below wr.heap.size wr) => (z.h.cell (p := ⟨_, _, none⟩) (by (try dsimp only) <;> omega)).trans c1; have zc2 := fun z : Wd (Below wr.heap.size wr) => (z.h.cell (p := ⟨_, _, none⟩) (by (try dsimp only) <;> omega)).trans c2; have zc3 := fun z : Wd (Below wr.heap.size wr) => (z.h.cell (p := ⟨_, _, none⟩) (by (try dsimp only) <;> omega)).trans c3; have zd0 := fun z : Wd (Below wr.heap.size wr) => (z.h.cell (p := ⟨_, _, none⟩) (by (try dsimp only) <;> omega)).trans d0; have zd1 := fun z : Wd (Below wr.heap.size wr) => (z.h.cell (p := ⟨_, _, none⟩) (by (try dsimp only) <;> omega)).trans d1; have zd2 := fun z : Wd (Below wr.heap.size wr) => (z.h.cell (p := ⟨_, _, none⟩) (by (try dsimp only) <;> omega)).trans d2; have zd3 := fun z : Wd (Below wr.heap.size wr) => (z.h.cell (p := ⟨_, _, none⟩) (by (try dsimp only) <;> omega)).trans d3; have zrqa3 := fun z : Wd (Below wr.heap.size wr) => (z.h.cell (p := ⟨_, _, none⟩) (by (try dsimp only) <;> omega)).trans rqa3; have zrqb3 := fun z : Wd (Below wr.heap.size wr) => (z.h.cell (p := ⟨_, _, none⟩) (by (try dsimp only) <;> omega)).trans rqb3); (repeat (any_goals (first | go_big_quiet_step (((first | (go_at_call 30; (with_reducible refine (HC.out _ (hbA.trans (Below.mono (Wd.h _) hbA.size))).mono ?_); rintro e w' ⟨rfl, hbk⟩; exact ⟨rfl, ⟨w', Below.trans (Wd.h _) (hbk.mono (Below.size (Wd.h _)))⟩, rfl⟩)))) | (refine wpQuiet_step (fun K hK => ?_); go_simp; (first | (refine hK _ ?_; clear hK K) | (split <;> rename_i hg <;> (refine hK _ ?_; clear hK K) <;> (try simp only [Bool.not_eq_true] at hg) <;> (first | simp only [Int.not_lt.2 hg, decide_false] | simp only [Int.not_le.1 hg, decide_true] | simp only [hg, decide_true, decide_false] | skip)))))));  all_goals (refine wpQuiet_nil ?_; intro wq hgq))
        all_goals
          replace hbr := hbr.trans (hgq.mono hbr.size)
          go_wp2_with fail
          go_roundw
          case rel => exact ⟨k + 1, by omega, by go_num, hbr⟩
          case measure => simp [intOf]; omega
      · obtain rfl : n = k := by omega
        have hkn : ¬ ((n : Int) < (n : Int)) := by omega
        go_wp2_with fail
        go_ret
        exact ⟨rfl, hbW.trans (hbr.mono hbW.size)⟩
theorem sameexpr_any {w : World} {e : Ex} {x y : It} (h : Rp w e x) (k : Rp w e y) : Calls Try.prog 30 #[x.val, y.val] w fun r w'' => r = .returned (.bool true) ∧ Below w.heap.size w w'' := sameexpr_from h y k w (Below.refl _ _)
set_option maxHeartbeats 16000000 in
theorem sametariff_any (t u : Tv) (T : Td) (w : World) (ht : TD w t T) (hu : TD w u T) :
    Calls Try.prog 16 #[t.val, u.val] w fun e w' => e = .returned (.bool true) ∧ Below w.heap.size w w' := by
  obtain ⟨name, from_, split, Az, nz, cz, Ab, nb, cb, Ar, nr, cr, Ad, nd, cd⟩ := t
  obtain ⟨name', from_', split', Bz, mz, dz, Bb, mb, db, Br, mr, dr, Bd_, md, dd⟩ := u
  obtain ⟨h1, _, h2, h3, hz, hb, hr, hd⟩ := ht
  obtain ⟨k1, _, k2, k3, kz, kb, kr, kd⟩ := hu
  dsimp only at h1 h2 h3 hz hb hr hd k1 k2 k3 kz kb kr kd
  subst h1 h2 h3 k1 k2 k3
  obtain rfl : nz = mz := by rw [← hz.len, kz.len]
  obtain rfl : nd = md := by rw [← hd.len, kd.len]
  have HB := Lib.hid (fun w' (h' : Below w.heap.size w w') => samebands_any Ab nb cb Bb mb db T.bs w' (hb.on (fun _ _ _ _ h hb => h.on hb) h') (kb.on (fun _ _ _ _ h hb => h.on hb) h'))
  have HR := Lib.hid (fun w' (h' : Below w.heap.size w w') => samerates_any Ar nr cr Br mr dr T.rs w' (hr.on (fun _ _ _ _ h hb => h.on hb) h') (kr.on (fun _ _ _ _ h hb => h.on hb) h'))
  obtain ⟨_, zs, hzs, hza⟩ := hz
  obtain ⟨_, zs', kzs, kza⟩ := kz
  obtain ⟨_, ds, hds, hda⟩ := hd
  obtain ⟨_, ds', kds, kda⟩ := kd
  have hnz := hzs.nmax
  have hnd := hds.nmax
  have Z1 := Lib.hid hzs
  have Z2 := Lib.hid kzs
  have Z3 := Lib.hid hza
  have Z4 := Lib.hid kza
  have D1 := Lib.hid hds
  have D2 := Lib.hid kds
  have D3 := Lib.hid hda
  have D4 := Lib.hid kda
  clear hb hr kb kr hzs kzs hza kza hds kds hda kda
  unfold Tv.val
  dsimp only
  go_enter Try.func16, Try.ntmps16
  go_upto_region 1 with (fail)
  (obtain ⟨W, hWW, hbW, hzW, f1W, f2W, qfa, qfb⟩ := box2 w #[.string T.name, .int .i64 T.from_, .bool T.split, .slice Az nz cz, .slice Ab nb cb, .slice Ar nr cr, .slice Ad nd cd] 32 #[.string T.name, .int .i64 T.from_, .bool T.split, .slice Bz nz dz, .slice Bb mb db, .slice Br mr dr, .slice Bd_ nd dd] 32; rw [← hWW]; have qa0 : W.cell? ⟨w.heap.size, 0, none⟩ = some (.string T.name) := f1W 0 _ rfl; have qa1 : W.cell? ⟨w.heap.size, 1, none⟩ = some (.int .i64 T.from_) := f1W 1 _ rfl; have qa2 : W.cell? ⟨w.heap.size, 2, none⟩ = some (.bool T.split) := f1W 2 _ rfl; have qa3 : W.cell? ⟨w.heap.size, 3, none⟩ = some (.slice Az nz cz) := f1W 3 _ rfl; have qa4 : W.cell? ⟨w.heap.size, 4, none⟩ = some (.slice Ab nb cb) := f1W 4 _ rfl; have qa5 : W.cell? ⟨w.heap.size, 5, none⟩ = some (.slice Ar nr cr) := f1W 5 _ rfl; have qa6 : W.cell? ⟨w.heap.size, 6, none⟩ = some (.slice Ad nd cd) := f1W 6 _ rfl; have qb0 : W.cell? ⟨w.heap.size + 1, 0, none⟩ = some (.string T.name) := f2W 0 _ rfl; have qb1 : W.cell? ⟨w.heap.size + 1, 1, none⟩ = some (.int .i64 T.from_) := f2W 1 _ rfl; have qb2 : W.cell? ⟨w.heap.size + 1, 2, none⟩ = some (.bool T.split) := f2W 2 _ rfl; have qb3 : W.cell? ⟨w.heap.size + 1, 3, none⟩ = some (.slice Bz nz dz) := f2W 3 _ rfl; have qb4 : W.cell? ⟨w.heap.size + 1, 4, none⟩ = some (.slice Bb mb db) := f2W 4 _ rfl; have qb5 : W.cell? ⟨w.heap.size + 1, 5, none⟩ = some (.slice Br mr dr) := f2W 5 _ rfl; have qb6 : W.cell? ⟨w.heap.size + 1, 6, none⟩ = some (.slice Bd_ nd dd) := f2W 6 _ rfl; clear hWW f1W f2W)
  go_wp2_with fail
  go_loopw [5] (fun i wr => ∃ (k : Nat), k ≤ nz ∧ i = .int .i64 k ∧ Below W.heap.size W wr) (fun i _ => nz - (intOf i).toNat)
  case atStart => exact ⟨0, Nat.zero_le _, rfl, Below.refl _ _⟩
  case round =>
    obtain ⟨k, hk, rfl, hbr⟩ := hrel
    have hzr := hbr.size
    have hbA := hbW.trans (hbr.mono hbW.size)
    (have rqa3 := (hbr.cell (p := ⟨_, _, none⟩) (by (try dsimp only) <;> omega)).trans qa3; have rqa4 := (hbr.cell (p := ⟨_, _, none⟩) (by (try dsimp only) <;> omega)).trans qa4; have rqa5 := (hbr.cell (p := ⟨_, _, none⟩) (by (try dsimp only) <;> omega)).trans qa5; have rqa6 := (hbr.cell (p := ⟨_, _, none⟩) (by (try dsimp only) <;> omega)).trans qa6; have rqb3 := (hbr.cell (p := ⟨_, _, none⟩) (by (try dsimp only) <;> omega)).trans qb3; have rqb4 := (hbr.cell (p := ⟨_, _, none⟩) (by (try dsimp only) <;> omega)).trans qb4; have rqb5 := (hbr.cell (p := ⟨_, _, none⟩) (by (try dsimp only) <;> omega)).trans qb5; have rqb6 := (hbr.cell (p := ⟨_, _, none⟩) (by (try dsimp only) <;> omega)).trans qb6)
    have hg : w.heap.size + 1 < wr.heap.size := by omega
    by_cases hlt : k < nz
    · obtain ⟨x, hx⟩ := Z1.out.get hlt
      obtain ⟨y, hy⟩ := Z2.out.get hlt
      obtain ⟨z, hz, hxz⟩ := Z3.out.at_ hx
      have hyz := Z4.out.2 k y z hy hz
      obtain ⟨b, off, hAe, hbw, hcells⟩ := Z1.out.baseIn hbA (by omega)
      obtain ⟨b', off', hBe, hbw', hcells'⟩ := Z2.out.baseIn hbA (by omega)
      subst hAe hBe
      have e0 : wr.cell? ⟨b, off + k * 2, none⟩ = some (.string z.1) := by rw [← hxz.1]; exact Sl.at_ hcells hx 0 rfl
      have f0 : wr.cell? ⟨b', off' + k * 2, none⟩ = some (.string z.1) := by rw [← hyz.1]; exact Sl.at_ hcells' hy 0 rfl
      have e1 : wr.cell? ⟨b, off + k * 2 + 1, none⟩ = some (.slice x.A x.n x.c) := Sl.at_ hcells hx 1 rfl
      have f1 : wr.cell? ⟨b', off' + k * 2 + 1, none⟩ = some (.slice y.A y.n y.c) := Sl.at_ hcells' hy 1 rfl
      have HC := Lib.hid (fun w' (h' : Below w.heap.size w w') => sametexts_any x.A x.n x.c y.A y.n y.c z.2 w' (hxz.2.2.2.1.below h') (hyz.2.2.2.1.below h'))
      have hb1 : b < wr.heap.size := Nat.lt_of_lt_of_le hbw hbA.size
      have hb2 : b' < wr.heap.size := Nat.lt_of_lt_of_le hbw' hbA.size
      clear hcells hcells' hx hy hz hxz hyz
      go_upto_region 6 with (fail)
      ((with_reducible refine wp_region_class (Below wr.heap.size wr) ?_ ?_ ?_ ?_); kernel_rfl; kernel_rfl; (exact (Below.refl _ _).drew); (intro hnonemp); (have ze0 := fun z : Wd (Below wr.heap.size wr) => (z.h.cell (p := ⟨_, _, none⟩) (by (try dsimp only) <;> omega)).trans e0; have ze1 := fun z : Wd (Below wr.heap.size wr) => (z.h.cell (p := ⟨_, _, none⟩) (by (try dsimp only) <;> omega)).trans e1; have zf0 := fun z : Wd (Below wr.heap.size wr) => (z.h.cell (p := ⟨_, _, none⟩) (by (try dsimp only) <;> omega)).trans f0; have zf1 := fun z : Wd (Below wr.heap.size wr) => (z.h.cell (p := ⟨_, _, none⟩) (by (try dsimp only) <;> omega)).trans f1; have zrqa3 := fun z : Wd (Below wr.heap.size wr) => (z.h.cell (p := ⟨_, _, none⟩) (by (try dsimp only) <;> omega)).trans rqa3; have zrqb3 := fun z : Wd (Below wr.heap.size wr) => (z.h.cell (p := ⟨_, _, none⟩) (by (try dsimp only) <;> omega)).trans rqb3); (repeat (any_goals (first | go_big_quiet_step (((first | (go_at_call 29; (with_reducible refine (HC.out _ (hbA.trans (Below.mono (Wd.h _) hbA.size))).mono ?_); rintro e w' ⟨rfl, hbk⟩; exact ⟨rfl, ⟨w', Below.trans (Wd.h _) (hbk.mono (Below.size (Wd.h _)))⟩, rfl⟩)))) | (refine wpQuiet_step (fun K hK => ?_); go_simp; (first | (refine hK _ ?_; clear hK K) | (split <;> rename_i hg <;> (refine hK _ ?_; clear hK K) <;> (try simp only [Bool.not_eq_true] at hg) <;> (first | simp only [Int.not_lt.2 hg, decide_false] | simp only [Int.not_le.1 hg, decide_true] | simp only [hg, decide_true, decide_false] | skip)))))));  all_goals (refine wpQuiet_nil ?_; intro wq hgq))
      all_goals
        replace hbr := hbr.trans (hgq.mono hbr.size)
        go_wp2_with fail
        go_roundw
        case rel => exact ⟨k + 1, by omega, by go_num, hbr⟩
        case measure => simp [intOf]; omega
    · obtain rfl : nz = k := by omega
      have hkn : ¬ ((nz : Int) < (nz : Int)) := by omega
      go_wp2_with fail
      go_loopw [6] (fun i wr => ∃ (k : Nat), k ≤ nd ∧ i = .int .i64 k ∧ Below W.heap.size W wr) (fun i _ => nd - (intOf i).toNat)
      case atStart => exact ⟨0, Nat.zero_le _, rfl, hbr⟩
      case round =>
        clear hbr hzr hbA rqa3 rqa4 rqa5 rqa6 rqb3 rqb4 rqb5 rqb6 hg
        obtain ⟨k, hk, rfl, hbr⟩ := hrel
        have hzr := hbr.size
        have hbA := hbW.trans (hbr.mono hbW.size)
        (have rqa3 := (hbr.cell (p := ⟨_, _, none⟩) (by (try dsimp only) <;> omega)).trans qa3; have rqa4 := (hbr.cell (p := ⟨_, _, none⟩) (by (try dsimp only) <;> omega)).trans qa4; have rqa5 := (hbr.cell (p := ⟨_, _, none⟩) (by (try dsimp only) <;> omega)).trans qa5; have rqa6 := (hbr.cell (p := ⟨_, _, none⟩) (by (try dsimp only) <;> omega)).trans qa6; have rqb3 := (hbr.cell (p := ⟨_, _, none⟩) (by (try dsimp only) <;> omega)).trans qb3; have rqb4 := (hbr.cell (p := ⟨_, _, none⟩) (by (try dsimp only) <;> omega)).trans qb4; have rqb5 := (hbr.cell (p := ⟨_, _, none⟩) (by (try dsimp only) <;> omega)).trans qb5; have rqb6 := (hbr.cell (p := ⟨_, _, none⟩) (by (try dsimp only) <;> omega)).trans qb6)
        have hg : w.heap.size + 1 < wr.heap.size := by omega
        by_cases hlt : k < nd
        · obtain ⟨x, hx⟩ := D1.out.get hlt
          obtain ⟨y, hy⟩ := D2.out.get hlt
          obtain ⟨z, hz, hxz⟩ := D3.out.at_ hx
          have hyz := D4.out.2 k y z hy hz
          obtain ⟨b, off, hAe, hbw, hcells⟩ := D1.out.baseIn hbA (by omega)
          obtain ⟨b', off', hBe, hbw', hcells'⟩ := D2.out.baseIn hbA (by omega)
          subst hAe hBe
          have e0 : wr.cell? ⟨b, off + k * 6, none⟩ = some (.string z.name) := by rw [← hxz.1]; exact Sl.at_ hcells hx 0 rfl
          have f0 : wr.cell? ⟨b', off' + k * 6, none⟩ = some (.string z.name) := by rw [← hyz.1]; exact Sl.at_ hcells' hy 0 rfl
          have e1 : wr.cell? ⟨b, off + k * 6 + 1, none⟩ = some (.int .i64 x.it.op) := Sl.at_ hcells hx 1 rfl
          have e2 : wr.cell? ⟨b, off + k * 6 + 2, none⟩ = some (.int .i64 x.it.num) := Sl.at_ hcells hx 2 rfl
          have e3 : wr.cell? ⟨b, off + k * 6 + 3, none⟩ = some (.string x.it.text) := Sl.at_ hcells hx 3 rfl
          have e4 : wr.cell? ⟨b, off + k * 6 + 4, none⟩ = some (.slice x.it.A x.it.n x.it.c) := Sl.at_ hcells hx 4 rfl
          have e5 : wr.cell? ⟨b, off + k * 6 + 5, none⟩ = some (.int .i64 z.pts) := by rw [← hxz.2.2.1]; exact Sl.at_ hcells hx 5 rfl
          have f1 : wr.cell? ⟨b', off' + k * 6 + 1, none⟩ = some (.int .i64 y.it.op) := Sl.at_ hcells' hy 1 rfl
          have f2 : wr.cell? ⟨b', off' + k * 6 + 2, none⟩ = some (.int .i64 y.it.num) := Sl.at_ hcells' hy 2 rfl
          have f3 : wr.cell? ⟨b', off' + k * 6 + 3, none⟩ = some (.string y.it.text) := Sl.at_ hcells' hy 3 rfl
          have f4 : wr.cell? ⟨b', off' + k * 6 + 4, none⟩ = some (.slice y.it.A y.it.n y.it.c) := Sl.at_ hcells' hy 4 rfl
          have f5 : wr.cell? ⟨b', off' + k * 6 + 5, none⟩ = some (.int .i64 z.pts) := by rw [← hyz.2.2.1]; exact Sl.at_ hcells' hy 5 rfl
          have HC := Lib.hid (fun w' (h' : Below w.heap.size w w') => sameexpr_any (hxz.2.2.2.on h') (hyz.2.2.2.on h'))
          unfold It.val at HC
          have hb1 : b < wr.heap.size := Nat.lt_of_lt_of_le hbw hbA.size
          have hb2 : b' < wr.heap.size := Nat.lt_of_lt_of_le hbw' hbA.size
          clear hcells hcells' hx hy hz hxz hyz
          go_upto_region 11 with (fail)
          ((with_reducible refine wp_region_class (Below wr.heap.size wr) ?_ ?_ ?_ ?_); kernel_rfl; kernel_rfl; (exact (Below.refl _ _).drew); (intro hnonemp); (have ze0 := fun z : Wd (Below wr.heap.size wr) => (z.h.cell (p := ⟨_, _, none⟩) (by (try dsimp only) <;> omega)).trans e0; have ze1 := fun z : Wd (Below wr.heap.size wr) => (z.h.cell (p := ⟨_, _, none⟩) (by (try dsimp only) <;> omega)).trans e1; have ze2 := fun z : Wd (Below wr.heap.size wr) => (z.h.cell (p := ⟨_, _, none⟩) (by (try dsimp only) <;> omega)).trans e2; have ze3 := fun z : Wd (Below wr.heap.size wr) => (z.h.cell (p := ⟨_, _, none⟩) (by (try dsimp only) <;> omega)).trans e3; have ze4 := fun z : Wd (Below wr.heap.size wr) => (z.h.cell (p := ⟨_, _, none⟩) (by (try dsimp only) <;> omega)).trans e4; have ze5 := fun z : Wd (Below wr.heap.size wr) => (z.h.cell (p := ⟨_, _, none⟩) (by (try dsimp only) <;> omega)).trans e5; have zf0 := fun z : Wd (Below wr.heap.size wr) => (z.h.cell (p := ⟨_, _, none⟩) (by (try dsimp only) <;> omega)).trans f0; have zf1 := fun z : Wd (Below wr.heap.size wr) => (z.h.cell (p := ⟨_, _, none⟩) (by (try dsimp only) <;> omega)).trans f1; have zf2 := fun z : Wd (Below wr.heap.size wr) => (z.h.cell (p := ⟨_, _, none⟩) (by (try dsimp only) <;> omega)).trans f2; have zf3 := fun z : Wd (Below wr.heap.size wr) => (z.h.cell (p := ⟨_, _, none⟩) (by (try dsimp only) <;> omega)).trans f3; have zf4 := fun z : Wd (Below wr.heap.size wr) => (z.h.cell (p := ⟨_, _, none⟩) (by (try dsimp only) <;> omega)).trans f4; have zf5 := fun z : Wd (Below wr.heap.size wr) => (z.h.cell (p := ⟨_, _, none⟩) (by (try dsimp only) <;> omega)).trans f5; have zrqa6 := fun z : Wd (Below wr.heap.size wr) => (z.h.cell (p := ⟨_, _, none⟩) (by (try dsimp only) <;> omega)).trans rqa6; have zrqb6 := fun z : Wd (Below wr.heap.size wr) => (z.h.cell (p := ⟨_, _, none⟩) (by (try dsimp only) <;> omega)).trans rqb6); (repeat (any_goals (first | go_big_quiet_step (((first | (go_at_call 30; (with_reducible refine (HC.out _ (hbA.trans (Below.mono (Wd.h _) hbA.size))).mono ?_); rintro e w' ⟨rfl, hbk⟩; exact ⟨rfl, ⟨w', Below.trans (Wd.h _) (hbk.mono (Below.size (Wd.h _)))⟩, rfl⟩)))) | (refine wpQuiet_step (fun K hK => ?_); go_simp; (first | (refine hK _ ?_; clear hK K) | (split <;> rename_i hg <;> (refine hK _ ?_; clear hK K) <;> (try simp only [Bool.not_eq_true] at hg) <;> (first | simp only [Int.not_lt.2 hg, decide_false] | simp only [Int.not_le.1 hg, decide_true] | simp only [hg, decide_true, decide_false] | skip)))))));  all_goals (refine wpQuiet_nil ?_; intro wq hgq))
          all_goals
            replace hbr := hbr.trans (hgq.mono hbr.size)
            go_wp2_with fail
            go_roundw
            case rel => exact ⟨k + 1, by omega, by go_num, hbr⟩
            case measure => simp [intOf]; omega
        · obtain rfl : nd = k := by omega
          have hkn : ¬ ((nd : Int) < (nd : Int)) := by omega
          go_wp2_with fail
          refine (HB.out _ hbA).mono ?_
          rintro r w2 ⟨rfl, hb2⟩
          have hbA2 := hbA.trans (hb2.mono hbA.size)
          have hzb2 := hb2.size
          (have srqa5 := (hb2.cell (p := ⟨_, _, none⟩) (by (try dsimp only) <;> omega)).trans rqa5; have srqb5 := (hb2.cell (p := ⟨_, _, none⟩) (by (try dsimp only) <;> omega)).trans rqb5)
          go_wp2_with fail
          refine (HR.out _ hbA2).mono ?_
          rintro r w3 ⟨rfl, hb3⟩
          go_wp2_with fail
          go_ret
          exact ⟨rfl, hbA2.trans (hb3.mono hbA2.size)⟩
set_option maxHeartbeats 8000000 in
theorem same_any (A : Option Addr) (n c : Nat) (B : Option Addr) (m d : Nat) (Ts : List Td) (w : World) (h : LT w A n c Ts) (k : LT w B m d Ts) :
    Calls Try.prog 21 #[.slice A n c, .slice B m d] w fun e w' => e = .returned (.bool true) ∧ Below w.heap.size w w' := by
  obtain rfl : n = m := by rw [← h.len, k.len]
  obtain ⟨_, xs, hs, ha⟩ := h
  obtain ⟨_, ys, ks, ka⟩ := k
  have hn := hs.nmax
  have H := Lib.hid hs
  have K := Lib.hid ks
  have HA := Lib.hid ha
  have KA := Lib.hid ka
  clear hs ks ha ka
  go_enter Try.func21, Try.ntmps21
  go_wp2_with fail
  go_loopw [5] (fun i wr => ∃ k : Nat, k ≤ n ∧ i = .int .i64 k ∧ Below w.heap.size w wr) (fun i _ => n - (intOf i).toNat)
  case atStart => exact ⟨0, Nat.zero_le _, rfl, Below.refl _ _⟩
  case round =>
    obtain ⟨k, hk, rfl, hbr⟩ := hrel
    by_cases hlt : k < n
    · obtain ⟨b, off, rfl, hbl, hcells⟩ := H.out.baseIn hbr (by omega)
      obtain ⟨b', off', rfl, hbl', hcells'⟩ := K.out.baseIn hbr (by omega)
      obtain ⟨x, hx⟩ := H.out.get hlt
      obtain ⟨y, hy⟩ := K.out.get hlt
      obtain ⟨q, hq, hxq⟩ := HA.out.at_ hx
      have hyq := KA.out.2 k y q hy hq
      (have e0 : wr.cell? ⟨b, off + k * 7, none⟩ = some (.string x.name) := Sl.at_ hcells hx 0 rfl; have e1 : wr.cell? ⟨b, off + k * 7 + 1, none⟩ = some (.int .i64 x.from_) := Sl.at_ hcells hx 1 rfl; have e2 : wr.cell? ⟨b, off + k * 7 + 2, none⟩ = some (.bool x.split) := Sl.at_ hcells hx 2 rfl; have e3 : wr.cell? ⟨b, off + k * 7 + 3, none⟩ = some (.slice x.Az x.nz x.cz) := Sl.at_ hcells hx 3 rfl; have e4 : wr.cell? ⟨b, off + k * 7 + 4, none⟩ = some (.slice x.Ab x.nb x.cb) := Sl.at_ hcells hx 4 rfl; have e5 : wr.cell? ⟨b, off + k * 7 + 5, none⟩ = some (.slice x.Ar x.nr x.cr) := Sl.at_ hcells hx 5 rfl; have e6 : wr.cell? ⟨b, off + k * 7 + 6, none⟩ = some (.slice x.Ad x.nd x.cd) := Sl.at_ hcells hx 6 rfl)
      have f0 : wr.cell? ⟨b', off' + k * 7, none⟩ = some (.string y.name) := Sl.at_ hcells' hy 0 rfl
      have f1 : wr.cell? ⟨b', off' + k * 7 + 1, none⟩ = some (.int .i64 y.from_) := Sl.at_ hcells' hy 1 rfl
      have f2 : wr.cell? ⟨b', off' + k * 7 + 2, none⟩ = some (.bool y.split) := Sl.at_ hcells' hy 2 rfl
      have f3 : wr.cell? ⟨b', off' + k * 7 + 3, none⟩ = some (.slice y.Az y.nz y.cz) := Sl.at_ hcells' hy 3 rfl
      have f4 : wr.cell? ⟨b', off' + k * 7 + 4, none⟩ = some (.slice y.Ab y.nb y.cb) := Sl.at_ hcells' hy 4 rfl
      have f5 : wr.cell? ⟨b', off' + k * 7 + 5, none⟩ = some (.slice y.Ar y.nr y.cr) := Sl.at_ hcells' hy 5 rfl
      have f6 : wr.cell? ⟨b', off' + k * 7 + 6, none⟩ = some (.slice y.Ad y.nd y.cd) := Sl.at_ hcells' hy 6 rfl
      have HC := Lib.hid (fun w3 (h3 : Below w.heap.size w w3) => sametariff_any x y q w3 (hxq.on h3) (hyq.on h3))
      unfold Tv.val at HC
      have hb1 : b < wr.heap.size := Nat.lt_of_lt_of_le hbl hbr.size
      have hb2 : b' < wr.heap.size := Nat.lt_of_lt_of_le hbl' hbr.size
      clear hcells hcells' hx hy hq hxq hyq
      go_upto_region 6 with (fail)
      ((with_reducible refine wp_region_class (Below wr.heap.size wr) ?_ ?_ ?_ ?_); kernel_rfl; kernel_rfl; (exact (Below.refl _ _).drew); (intro hnonemp); (have ze0 := fun z : Wd (Below wr.heap.size wr) => (z.h.cell (p := ⟨_, _, none⟩) (by (try dsimp only) <;> omega)).trans e0; have ze1 := fun z : Wd (Below wr.heap.size wr) => (z.h.cell (p := ⟨_, _, none⟩) (by (try dsimp only) <;> omega)).trans e1; have ze2 := fun z : Wd (Below wr.heap.size wr) => (z.h.cell (p := ⟨_, _, none⟩) (by (try dsimp only) <;> omega)).trans e2; have ze3 := fun z : Wd (Below wr.heap.size wr) => (z.h.cell (p := ⟨_, _, none⟩) (by (try dsimp only) <;> omega)).trans e3; have ze4 := fun z : Wd (Below wr.heap.size wr) => (z.h.cell (p := ⟨_, _, none⟩) (by (try dsimp only) <;> omega)).trans e4; have ze5 := fun z : Wd (Below wr.heap.size wr) => (z.h.cell (p := ⟨_, _, none⟩) (by (try dsimp only) <;> omega)).trans e5; have ze6 := fun z : Wd (Below wr.heap.size wr) => (z.h.cell (p := ⟨_, _, none⟩) (by (try dsimp only) <;> omega)).trans e6; have zf0 := fun z : Wd (Below wr.heap.size wr) => (z.h.cell (p := ⟨_, _, none⟩) (by (try dsimp only) <;> omega)).trans f0; have zf1 := fun z : Wd (Below wr.heap.size wr) => (z.h.cell (p := ⟨_, _, none⟩) (by (try dsimp only) <;> omega)).trans f1; have zf2 := fun z : Wd (Below wr.heap.size wr) => (z.h.cell (p := ⟨_, _, none⟩) (by (try dsimp only) <;> omega)).trans f2; have zf3 := fun z : Wd (Below wr.heap.size wr) => (z.h.cell (p := ⟨_, _, none⟩) (by (try dsimp only) <;> omega)).trans f3; have zf4 := fun z : Wd (Below wr.heap.size wr) => (z.h.cell (p := ⟨_, _, none⟩) (by (try dsimp only) <;> omega)).trans f4; have zf5 := fun z : Wd (Below wr.heap.size wr) => (z.h.cell (p := ⟨_, _, none⟩) (by (try dsimp only) <;> omega)).trans f5; have zf6 := fun z : Wd (Below wr.heap.size wr) => (z.h.cell (p := ⟨_, _, none⟩) (by (try dsimp only) <;> omega)).trans f6); (repeat (any_goals (first | go_big_quiet_step (((first | (go_at_call 16; (with_reducible refine (HC.out _ (hbr.trans (Below.mono (Wd.h _) hbr.size))).mono ?_); rintro e w' ⟨rfl, hbk⟩; exact ⟨rfl, ⟨w', Below.trans (Wd.h _) (hbk.mono (Below.size (Wd.h _)))⟩, rfl⟩)))) | (refine wpQuiet_step (fun K hK => ?_); go_simp; (first | (refine hK _ ?_; clear hK K) | (split <;> rename_i hg <;> (refine hK _ ?_; clear hK K) <;> (try simp only [Bool.not_eq_true] at hg) <;> (first | simp only [Int.not_lt.2 hg, decide_false] | simp only [Int.not_le.1 hg, decide_true] | simp only [hg, decide_true, decide_false] | skip)))))));  all_goals (refine wpQuiet_nil ?_; intro wq hgq))
      all_goals
        replace hbr := hbr.trans (hgq.mono hbr.size)
        go_wp2_with fail
        go_roundw
        case rel => exact ⟨k + 1, by omega, by go_num, hbr⟩
        case measure => simp [intOf]; omega
    · obtain rfl : n = k := by omega
      have hkn : ¬ ((n : Int) < (n : Int)) := by omega
      go_wp2_with fail
      go_ret
      exact ⟨rfl, hbr⟩
end Cv
end Go.Proofs.Ytdnnnajohdohaaa
