/-
  Amounts: Scale, Percent. No condition.
-/
import Derived.Test.YtdjlfdbdhacmjaaDcA
import Derived.BigQuiet
import Derived.StillTailTactics
import Derived.Lib.Overlaps
import Derived.Deep.DeepCutAuto
set_option maxRecDepth 100000
set_option linter.unusedVariables false
set_option linter.unusedSimpArgs false
namespace Go.Proofs.Ytdjlfdbdhacmjaa
open Go.RowKit

namespace Dc
theorem valid_any (a : Int) (w : World) : Calls Try.prog 34 #[.int .i64 a] w fun r w' => r = .returned (.bool (decide (-1125899906842624 ≤ a) && decide (a ≤ 1125899906842624))) ∧ w = w' := by
  by_cases h : -1125899906842624 ≤ a
  · go_enter Try.func34, Try.ntmps34
    go_wp2_with fail
    go_ret
    exact ⟨ret_bool (by simp [h]), rfl⟩
  · go_enter Try.func34, Try.ntmps34
    go_wp2_with fail
    go_ret
    exact ⟨ret_bool (by simp; omega), rfl⟩
theorem checked_any (a : Int) (w : World) (h : -1125899906842624 ≤ a ∧ a ≤ 1125899906842624) : Calls Try.prog 36 #[.int .i64 a] w fun r w' => r = .returned (.tuple #[.int .i64 a, .int .i64 0]) ∧ w = w' := by
  obtain ⟨h1, h2⟩ := h
  have hv : (decide (-1125899906842624 ≤ a) && decide (a ≤ 1125899906842624)) = true := by simp [h1, h2]
  go_enter Try.func36, Try.ntmps36
  go_wp2_with fail
  refine (valid_any a _).mono ?_
  rintro r w' ⟨rfl, rfl⟩
  rw [hv]
  go_wp2_with fail
  go_ret2
  exact ⟨rfl, rfl⟩
theorem pct_bd {a p : Int} (ha : 0 ≤ a) (hp : 0 ≤ p ∧ p ≤ 10000) : 0 ≤ pct a p ∧ pct a p ≤ a := by
  have h0 : 0 ≤ a * p := Int.mul_nonneg ha hp.1
  have h1 : a * p ≤ a * 10000 := Int.mul_le_mul_of_nonneg_left hp.2 ha
  unfold pct
  split <;> omega
set_option maxHeartbeats 2000000 in
theorem scale_any (a p : Int) (w : World) (ha : 0 ≤ a ∧ a ≤ 1125899906842624) (hp : 0 ≤ p ∧ p ≤ 10000) : Calls Try.prog 27 #[.int .i64 a, .int .i64 p, .int .i64 10000] w fun r w' => r = .returned (.tuple #[.int .i64 (pct a p), .int .i64 0]) ∧ w = w' := by
  obtain ⟨h1, h2⟩ := ha
  have hpb := pct_bd h1 hp
  obtain ⟨p1, p2⟩ := hp
  have hv : (decide (-1125899906842624 ≤ a) && decide (a ≤ 1125899906842624)) = true := by simp; omega
  have hw : IntKind.i64.wrap (-a) = -a := IntWalk.i64_in _ (by omega)
  have hm : max a (-a) = a := by omega
  have p3 : ¬ 1099511627776 < p := by omega
  have q1 : 0 ≤ a * p / 10000 := Int.ediv_nonneg (Int.mul_nonneg h1 p1) (by decide)
  have q2 : a * p / 10000 ≤ a := by
    have := Int.mul_le_mul_of_nonneg_left p2 h1
    omega
  have r1 : 0 ≤ a * p % 10000 ∧ a * p % 10000 < 10000 := by omega
  obtain ⟨q, hq⟩ : ∃ q, a * p / 10000 = q := ⟨_, rfl⟩
  obtain ⟨r, hr⟩ : ∃ r, a * p % 10000 = r := ⟨_, rfl⟩
  have hP : pct a p = if 10000 - r ≤ r then q + 1 else q := by unfold pct; rw [hq, hr]
  have HQ := Lib.hid hq
  have HR := Lib.hid hr
  have HP := Lib.hid hP
  have HB := Lib.hid hpb
  rw [hq] at q1 q2
  rw [hr] at r1
  obtain ⟨r1, r2⟩ := r1
  clear hP hq hr hpb
  have hw2 : IntKind.i64.wrap (10000 - r) = 10000 - r := IntWalk.i64_in _ (by omega)
  have hw3 : IntKind.i64.wrap (q + 1) = q + 1 := IntWalk.i64_in _ (by omega)
  have ha0 : ¬ a < 0 := by omega
  by_cases hc : 10000 - r ≤ r
  · have hb : 0 ≤ q + 1 ∧ q + 1 ≤ 1125899906842624 := by
      have h3 := HP.out
      rw [if_pos hc] at h3
      have h4 := HB.out
      omega
    obtain ⟨b1, b2⟩ := hb
    go_enter Try.func27, Try.ntmps27
    go_wp2_with fail
    refine (valid_any a _).mono ?_
    rintro r w' ⟨rfl, rfl⟩
    rw [hv]
    go_wp2_with fail
    refine (divide_any a p 10000 _ ⟨h1, h2⟩ ⟨p1, p2⟩ (by decide)).mono ?_
    rintro r w' ⟨rfl, rfl⟩
    rw [HQ.out, HR.out]
    go_wp2_with fail
    refine (checked_any (q + 1) _ ⟨by omega, by omega⟩).mono ?_
    rintro r w' ⟨rfl, rfl⟩
    go_wp2_with fail
    go_ret2
    exact ⟨congrArg Ending.returned (by rw [HP.out, if_pos (by omega)]; rfl), rfl⟩
  · go_enter Try.func27, Try.ntmps27
    go_wp2_with fail
    refine (valid_any a _).mono ?_
    rintro r w' ⟨rfl, rfl⟩
    rw [hv]
    go_wp2_with fail
    refine (divide_any a p 10000 _ ⟨h1, h2⟩ ⟨p1, p2⟩ (by decide)).mono ?_
    rintro r w' ⟨rfl, rfl⟩
    rw [HQ.out, HR.out]
    go_wp2_with fail
    refine (checked_any q _ ⟨by omega, by omega⟩).mono ?_
    rintro r w' ⟨rfl, rfl⟩
    go_wp2_with fail
    go_ret2
    exact ⟨congrArg Ending.returned (by rw [HP.out, if_neg (by omega)]; rfl), rfl⟩
theorem percent_bad (a p : Int) (w : World) (hp : p < 0 ∨ 10000 < p) : Calls Try.prog 21 #[.int .i64 a, .int .i64 p] w fun r w' => r = .returned (.tuple #[.int .i64 0, .int .i64 6]) ∧ w = w' := by
  rcases (show p < 0 ∨ (¬ p < 0 ∧ 10000 < p) by omega) with h | ⟨h, h2⟩
  all_goals
    go_enter Try.func21, Try.ntmps21
    go_wp2_with fail
    go_ret2
    exact ⟨rfl, rfl⟩
theorem percent_ok (a p : Int) (w : World) (ha : 0 ≤ a ∧ a ≤ 1125899906842624) (hp : 0 ≤ p ∧ p ≤ 10000) : Calls Try.prog 21 #[.int .i64 a, .int .i64 p] w fun r w' => r = .returned (.tuple #[.int .i64 (pct a p), .int .i64 0]) ∧ w = w' := by
  have h1 : ¬ p < 0 := by omega
  have h2 : ¬ 10000 < p := by omega
  go_enter Try.func21, Try.ntmps21
  go_wp2_with fail
  refine (scale_any a p _ ha hp).mono ?_
  rintro r w' ⟨rfl, rfl⟩
  go_wp2_with fail
  go_ret2
  exact ⟨rfl, rfl⟩
end Dc
end Go.Proofs.Ytdjlfdbdhacmjaa
