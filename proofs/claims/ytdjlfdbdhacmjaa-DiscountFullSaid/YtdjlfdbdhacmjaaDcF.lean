/-
  Amounts of the reference: Divide, Scale, Percent. No condition.
-/
import Derived.Test.YtdjlfdbdhacmjaaDcB
import Derived.BigQuiet
import Derived.StillTailTactics
import Derived.Lib.Overlaps
import Derived.Deep.DeepCutAuto
import Derived.LoopN
import Derived.Laws.BitsLemmas
set_option maxRecDepth 100000
set_option linter.unusedVariables false
set_option linter.unusedSimpArgs false
namespace Go.Proofs.Ytdjlfdbdhacmjaa
open Go.RowKit

namespace Dc
theorem rstep {a n d Q R M T b : Int} (hd : 1 ≤ d) (h : Q * d + R = M * n) (hT : T = 2 * M + b) : (2 * Q + (2 * R + b * n) / d) * d + (2 * R + b * n) % d = T * n := by
  have e := Int.emod_add_mul_ediv (2 * R + b * n) d
  rw [Int.add_mul, Int.mul_assoc, Int.mul_comm ((2 * R + b * n) / d) d, hT, Int.add_mul, Int.mul_assoc, ← h]
  omega
set_option maxHeartbeats 4000000 in
theorem refdivide_any (a n d : Int) (w : World) (ha : 0 ≤ a ∧ a ≤ 1125899906842624) (hn : 0 ≤ n ∧ n ≤ d) (hd : 1 ≤ d ∧ d ≤ 1099511627776) : Calls Try.prog 40 #[.int .i64 a, .int .i64 n, .int .i64 d] w fun r w' => r = .returned (.tuple #[.int .i64 (a * n / d), .int .i64 (a * n % d)]) ∧ Below w.heap.size w w' := by
  have hd0 : ¬ d = 0 := by omega
  obtain ⟨ha1, ha2⟩ := ha
  obtain ⟨hn1, hn2⟩ := hn
  obtain ⟨hd1, hd2⟩ := hd
  go_enter Try.func40, Try.ntmps40
  go_wp2_with fail
  go_loopw [8, 9, 10] (fun q r i wr => ∃ (k : Nat) (Q R : Int), k ≤ 51 ∧ i = .int .i64 ((k : Int) - 1) ∧ q = .int .i64 Q ∧ r = .int .i64 R ∧ 0 ≤ Q ∧ 0 ≤ R ∧ R < d ∧ Q * d + R = (a / 2 ^ k) * n ∧ Below w.heap.size w wr) (fun _ _ i _ => (intOf i + 1).toNat)
  case atStart =>
    refine ⟨51, 0, 0, Nat.le_refl _, rfl, rfl, rfl, by omega, by omega, by omega, ?_, Below.refl _ _⟩
    rw [show a / 2 ^ 51 = 0 from Int.ediv_eq_zero_of_lt ha1 (by omega)]
    simp
  case round =>
    obtain ⟨k, Q, R, hk, rfl, rfl, rfl, h1, h2, h3, h4, hb⟩ := hrel
    have H4 := Lib.hid h4
    clear h4
    by_cases hkz : 0 < k
    · obtain ⟨j, rfl⟩ : ∃ j, k = j + 1 := ⟨k - 1, by omega⟩
      have hQa := quo_le (part_le ha1 (j + 1)).1 hn2 hd1 h2 H4.out
      have hQb := (part_le ha1 (j + 1)).2
      have hQc := (part_le ha1 j).2
      have g0 : 0 ≤ ((j + 1 : Nat) : Int) - 1 := by omega
      have hsub : ((j + 1 : Nat) : Int) - 1 = (j : Int) := by omega
      have hT : a / 2 ^ j = 2 * (a / 2 ^ (j + 1)) + a / 2 ^ j % 2 := by rw [half]; omega
      have w1 : IntKind.i64.wrap (2 * Q) = 2 * Q := IntWalk.i64_in _ (by omega)
      have w2 : IntKind.i64.wrap (2 * R) = 2 * R := IntWalk.i64_in _ (by omega)
      rcases Int.emod_two_eq (a / 2 ^ j) with ht | ht
      · have hb1 : (bits BinOp.and IntKind.i64 (a / 2 ^ j) 1 == 1) = false := by rw [i64_and1, ht]; rfl
        have hS := rstep (b := 0) (a := a) (T := a / 2 ^ j) hd1 H4.out (by omega)
        rw [Int.zero_mul, Int.add_zero] at hS
        have x1 : 0 ≤ 2 * R / d := Int.ediv_nonneg (by omega) (by omega)
        have x2 : 2 * R / d ≤ 2 * R := Int.ediv_le_self _ (by omega)
        have x3 : 0 ≤ 2 * R % d := Int.emod_nonneg _ hd0
        have x4 : 2 * R % d < d := Int.emod_lt_of_pos _ (by omega)
        have hle := quo_le (part_le ha1 j).1 hn2 hd1 x3 hS
        have hgt : ¬ 288230376151711744 < 2 * Q + 2 * R / d := by omega
        have w3 : IntKind.i64.wrap (2 * Q + 2 * R / d) = 2 * Q + 2 * R / d := IntWalk.i64_in _ (by omega)
        have HS := Lib.hid hS
        have HT := Lib.hid hT
        have X3 := Lib.hid x3
        have X4 := Lib.hid x4
        have X0 := Lib.hid (show 0 ≤ 2 * Q + 2 * R / d by omega)
        clear hS hT ht x3 x4 hQa hQb hQc hle
        go_upto_region 8 with (fail)
        ((with_reducible refine wp_region_quiet_lit ?_ ?_ ?_); kernel_rfl; kernel_rfl; (repeat (any_goals (first | go_big_quiet_step (fail) | (refine wpQuiet_step (fun K hK => ?_); go_simp; (first | (refine hK _ ?_; clear hK K) | (split <;> rename_i hg <;> (refine hK _ ?_; clear hK K) <;> (try simp only [Bool.not_eq_true] at hg) <;> (first | simp only [Int.not_lt.2 hg, decide_false] | simp only [Int.not_le.1 hg, decide_true] | simp only [hg, decide_true, decide_false] | skip))))))); all_goals (refine wpQuiet_nil ?_; intro _ hw'; obtain ⟨nq, hw''⟩ := hw'; subst hw''))
        go_wp2_with fail
        go_roundw
        case rel => exact ⟨j, _, _, by omega, by go_num, rfl, rfl, X0.out, X3.out, X4.out, HS.out, by (repeat (first | exact hb | exact Below.refl _ _ | (refine Below.alloc ?_ (by (try simp) <;> omega) _) | (refine Below.setCell ?_ (by (try simp) <;> omega) _) | refine Below.drew ?_ | refine below_drewN ?_ _))⟩
        case measure => first | (simp [intOf]; done) | (simp [intOf]; omega)
      · have hb1 : (bits BinOp.and IntKind.i64 (a / 2 ^ j) 1 == 1) = true := by rw [i64_and1, ht]; rfl
        have hS := rstep (b := 1) (a := a) (T := a / 2 ^ j) hd1 H4.out (by omega)
        rw [Int.one_mul] at hS
        have x1 : 0 ≤ (2 * R + n) / d := Int.ediv_nonneg (by omega) (by omega)
        have x2 : (2 * R + n) / d ≤ 2 * R + n := Int.ediv_le_self _ (by omega)
        have x3 : 0 ≤ (2 * R + n) % d := Int.emod_nonneg _ hd0
        have x4 : (2 * R + n) % d < d := Int.emod_lt_of_pos _ (by omega)
        have hle := quo_le (part_le ha1 j).1 hn2 hd1 x3 hS
        have hgt : ¬ 288230376151711744 < 2 * Q + (2 * R + n) / d := by omega
        have w3 : IntKind.i64.wrap (2 * Q + (2 * R + n) / d) = 2 * Q + (2 * R + n) / d := IntWalk.i64_in _ (by omega)
        have w4 : IntKind.i64.wrap (2 * R + n) = 2 * R + n := IntWalk.i64_in _ (by omega)
        have w6 : (2 * R + n).tdiv d = (2 * R + n) / d := Int.tdiv_eq_ediv_of_nonneg (by omega)
        have w7 : (2 * R + n).tmod d = (2 * R + n) % d := Int.tmod_eq_emod_of_nonneg (by omega)
        have w8 : IntKind.i64.wrap ((2 * R + n) / d) = (2 * R + n) / d := IntWalk.i64_in _ (by omega)
        have w9 : 0 ≤ 2 * R + n := by omega
        have HS := Lib.hid hS
        have HT := Lib.hid hT
        have X3 := Lib.hid x3
        have X4 := Lib.hid x4
        have X0 := Lib.hid (show 0 ≤ 2 * Q + (2 * R + n) / d by omega)
        clear hS hT ht x3 x4 hQa hQb hQc hle
        go_upto_region 8 with (fail)
        ((with_reducible refine wp_region_quiet_lit ?_ ?_ ?_); kernel_rfl; kernel_rfl; (repeat (any_goals (first | go_big_quiet_step (fail) | (refine wpQuiet_step (fun K hK => ?_); go_simp; (first | (refine hK _ ?_; clear hK K) | (split <;> rename_i hg <;> (refine hK _ ?_; clear hK K) <;> (try simp only [Bool.not_eq_true] at hg) <;> (first | simp only [Int.not_lt.2 hg, decide_false] | simp only [Int.not_le.1 hg, decide_true] | simp only [hg, decide_true, decide_false] | skip))))))); all_goals (refine wpQuiet_nil ?_; intro _ hw'; obtain ⟨nq, hw''⟩ := hw'; subst hw''))
        go_wp2_with fail
        go_roundw
        case rel => exact ⟨j, _, _, by omega, by go_num, rfl, rfl, X0.out, X3.out, X4.out, HS.out, by (repeat (first | exact hb | exact Below.refl _ _ | (refine Below.alloc ?_ (by (try simp) <;> omega) _) | (refine Below.setCell ?_ (by (try simp) <;> omega) _) | refine Below.drew ?_ | refine below_drewN ?_ _))⟩
        case measure => first | (simp [intOf]; done) | (simp [intOf]; omega)
    · obtain rfl : k = 0 := by omega
      have hu := (Int.ediv_emod_unique (a := a * n) (b := d) (r := R) (q := Q) (by omega)).2 ⟨by have := H4.out; rw [Int.pow_zero, Int.ediv_one] at this; rw [Int.mul_comm d Q]; omega, h2, h3⟩
      have HU := Lib.hid hu
      have hneg : ¬ 0 ≤ ((0 : Nat) : Int) - 1 := by omega
      clear hu
      go_wp2_with fail
      go_ret2
      exact ⟨congrArg Ending.returned (by rw [HU.out.1, HU.out.2]; rfl), hb⟩
theorem refvalid_any (a : Int) (w : World) : Calls Try.prog 39 #[.int .i64 a] w fun r w' => r = .returned (.bool (decide (-1125899906842624 ≤ a) && decide (a ≤ 1125899906842624))) ∧ w = w' := by
  by_cases h : -1125899906842624 ≤ a
  · go_enter Try.func39, Try.ntmps39
    go_wp2_with fail
    go_ret
    exact ⟨ret_bool (by simp [h]), rfl⟩
  · go_enter Try.func39, Try.ntmps39
    go_wp2_with fail
    go_ret
    exact ⟨ret_bool (by simp; omega), rfl⟩
set_option maxHeartbeats 2000000 in
theorem refscale_any (a p : Int) (w : World) (ha : 0 ≤ a ∧ a ≤ 1125899906842624) (hp : 0 ≤ p ∧ p ≤ 10000) : Calls Try.prog 30 #[.int .i64 a, .int .i64 p, .int .i64 10000] w fun r w' => r = .returned (.tuple #[.int .i64 (pct a p), .int .i64 0]) ∧ Below w.heap.size w w' := by
  obtain ⟨h1, h2⟩ := ha
  have hpb := pct_bd h1 hp
  obtain ⟨p1, p2⟩ := hp
  have hv : (decide (-1125899906842624 ≤ a) && decide (a ≤ 1125899906842624)) = true := by simp; omega
  have p3 : ¬ 1099511627776 < p := by omega
  have p4 : ¬ p < 0 := by omega
  have q1 : 0 ≤ a * p / 10000 := Int.ediv_nonneg (Int.mul_nonneg h1 p1) (by decide)
  have q2 : a * p / 10000 ≤ a := by
    have := Int.mul_le_mul_of_nonneg_left p2 h1
    omega
  have r1 : 0 ≤ a * p % 10000 ∧ a * p % 10000 < 10000 := by omega
  obtain ⟨q, hq⟩ : ∃ q, a * p / 10000 = q := ⟨_, rfl⟩
  obtain ⟨r, hr⟩ : ∃ r, a * p % 10000 = r := ⟨_, rfl⟩
  have hP : pct a p = if 10000 ≤ 2 * r then q + 1 else q := by unfold pct; rw [hq, hr]; split <;> split <;> omega
  have HQ := Lib.hid hq
  have HR := Lib.hid hr
  have HP := Lib.hid hP
  have HB := Lib.hid hpb
  rw [hq] at q1 q2
  rw [hr] at r1
  obtain ⟨r1, r2⟩ := r1
  clear hP hq hr hpb
  have hw2 : IntKind.i64.wrap (2 * r) = 2 * r := IntWalk.i64_in _ (by omega)
  have hw3 : IntKind.i64.wrap (q + 1) = q + 1 := IntWalk.i64_in _ (by omega)
  have ha0 : ¬ a < 0 := by omega
  by_cases hc : 10000 ≤ 2 * r
  · have hb : 0 ≤ q + 1 ∧ q + 1 ≤ 1125899906842624 := by
      have h3 := HP.out
      rw [if_pos hc] at h3
      have h4 := HB.out
      omega
    obtain ⟨b1, b2⟩ := hb
    have hv2 : (decide (-1125899906842624 ≤ q + 1) && decide (q + 1 ≤ 1125899906842624)) = true := by simp; omega
    go_enter Try.func30, Try.ntmps30
    go_wp2_with fail
    refine (refvalid_any a _).mono ?_
    rintro r w' ⟨rfl, rfl⟩
    rw [hv]
    go_wp2_with fail
    refine (refdivide_any a p 10000 _ ⟨h1, h2⟩ ⟨p1, p2⟩ (by decide)).mono ?_
    rintro r w1 ⟨rfl, hb1⟩
    rw [HQ.out, HR.out]
    go_wp2_with fail
    refine (refvalid_any (q + 1) _).mono ?_
    rintro r w' ⟨rfl, rfl⟩
    rw [hv2]
    go_wp2_with fail
    go_ret2
    exact ⟨congrArg Ending.returned (by rw [HP.out, if_pos (by omega)]; rfl), hb1⟩
  · have hv2 : (decide (-1125899906842624 ≤ q) && decide (q ≤ 1125899906842624)) = true := by simp; omega
    go_enter Try.func30, Try.ntmps30
    go_wp2_with fail
    refine (refvalid_any a _).mono ?_
    rintro r w' ⟨rfl, rfl⟩
    rw [hv]
    go_wp2_with fail
    refine (refdivide_any a p 10000 _ ⟨h1, h2⟩ ⟨p1, p2⟩ (by decide)).mono ?_
    rintro r w1 ⟨rfl, hb1⟩
    rw [HQ.out, HR.out]
    go_wp2_with fail
    refine (refvalid_any q _).mono ?_
    rintro r w' ⟨rfl, rfl⟩
    rw [hv2]
    go_wp2_with fail
    go_ret2
    exact ⟨congrArg Ending.returned (by rw [HP.out, if_neg (by omega)]; rfl), hb1⟩
theorem refpercent_bad (a p : Int) (w : World) (hp : p < 0 ∨ 10000 < p) : Calls Try.prog 23 #[.int .i64 a, .int .i64 p] w fun r w' => r = .returned (.tuple #[.int .i64 0, .int .i64 6]) ∧ w = w' := by
  rcases (show p < 0 ∨ (¬ p < 0 ∧ 10000 < p) by omega) with h | ⟨h, h2⟩
  all_goals
    go_enter Try.func23, Try.ntmps23
    go_wp2_with fail
    go_ret2
    exact ⟨rfl, rfl⟩
theorem refpercent_ok (a p : Int) (w : World) (ha : 0 ≤ a ∧ a ≤ 1125899906842624) (hp : 0 ≤ p ∧ p ≤ 10000) : Calls Try.prog 23 #[.int .i64 a, .int .i64 p] w fun r w' => r = .returned (.tuple #[.int .i64 (pct a p), .int .i64 0]) ∧ Below w.heap.size w w' := by
  have h1 : ¬ p < 0 := by omega
  have h2 : ¬ 10000 < p := by omega
  go_enter Try.func23, Try.ntmps23
  go_wp2_with fail
  refine (refscale_any a p _ ha hp).mono ?_
  rintro r w1 ⟨rfl, hb1⟩
  go_wp2_with fail
  go_ret2
  exact ⟨rfl, hb1⟩
end Dc
end Go.Proofs.Ytdjlfdbdhacmjaa
