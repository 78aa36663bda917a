/-
  Amounts: divide, Scale, Percent. No condition.
-/
import Derived.Test.YtdjlfdbdhacmjaaExB
import Derived.BigQuiet
import Derived.StillTailTactics
import Derived.Lib.Overlaps
import Derived.Deep.DeepCutAuto
import Derived.LoopN
import Derived.Laws.BitsLemmas
set_option maxRecDepth 100000
set_option linter.unusedVariables false
set_option linter.unusedSimpArgs false
namespace Go.Proofs.Ytdjlfdbdhacmjaa
open Go.RowKit

namespace Dc
theorem i64_and1 (n : Int) : bits .and .i64 n 1 = n % 2 := by
  have h1 : (BitVec.ofInt 64 1).toNat = 2 ^ 1 - 1 := by decide
  have key : (BitVec.ofInt 64 n &&& BitVec.ofInt 64 1).toNat = (n % ((2 ^ 64 : Nat) : Int)).toNat % 2 ^ 1 := by
    rw [BitVec.toNat_and, BitVec.toNat_ofInt, h1, Nat.and_two_pow_sub_one_eq_mod]
  show IntKind.i64.wrap ((BitVec.ofInt 64 n &&& BitVec.ofInt 64 1).toNat : Nat) = n % 2
  rw [key, IntKind.wrap_i64]
  omega
/-- the half of it -/
theorem half (n : Int) (k : Nat) : n / 2 ^ (k + 1) = n / 2 ^ k / 2 := by
  rw [Int.ediv_ediv_of_nonneg (Int.le_of_lt (Int.pow_pos (by decide)))]
  rw [Int.pow_succ]
theorem part_le {n : Int} (h : 0 ≤ n) (k : Nat) : 0 ≤ n / 2 ^ k ∧ n / 2 ^ k ≤ n := by
  have hp : (0 : Int) < 2 ^ k := Int.pow_pos (by decide)
  exact ⟨Int.ediv_nonneg h (Int.le_of_lt hp), Int.ediv_le_self _ h⟩
theorem quo_le {a T d Q R : Int} (ha : 0 ≤ a) (hT : T ≤ d) (hd : 1 ≤ d) (hR : 0 ≤ R) (h : Q * d + R = a * T) : Q ≤ a := by
  rcases Int.lt_or_le a Q with hq | hq
  · exfalso
    have h1 : (a + 1) * d ≤ Q * d := Int.mul_le_mul_of_nonneg_right (by omega) (by omega)
    have h2 : a * T ≤ a * d := Int.mul_le_mul_of_nonneg_left hT ha
    rw [Int.add_mul, Int.one_mul] at h1
    omega
  · exact hq
theorem step0 {a d Q R M T : Int} (hd : 1 ≤ d) (h : Q * d + R = a * M) (hT : T = 2 * M) : (2 * Q + 2 * R / d) * d + 2 * R % d = a * T := by
  have e := Int.emod_add_mul_ediv (2 * R) d
  rw [Int.add_mul, Int.mul_assoc, Int.mul_comm (2 * R / d) d, hT, show a * (2 * M) = 2 * (a * M) by rw [Int.mul_left_comm], ← h]
  omega
theorem step1 {a d Q R M T : Int} (hd : 1 ≤ d) (h : Q * d + R = a * M) (hT : T = 2 * M + 1) : (2 * Q + a / d + (2 * R + a % d) / d) * d + (2 * R + a % d) % d = a * T := by
  have e := Int.emod_add_mul_ediv (2 * R + a % d) d
  have e2 := Int.emod_add_mul_ediv a d
  rw [Int.add_mul, Int.add_mul, Int.mul_assoc, Int.mul_comm ((2 * R + a % d) / d) d, Int.mul_comm (a / d) d, hT, Int.mul_add, Int.mul_one, show a * (2 * M) = 2 * (a * M) by rw [Int.mul_left_comm], ← h]
  omega
set_option maxHeartbeats 4000000 in
theorem divide_any (a n d : Int) (w : World) (ha : 0 ≤ a ∧ a ≤ 1125899906842624) (hn : 0 ≤ n ∧ n ≤ d) (hd : 1 ≤ d ∧ d ≤ 1099511627776) : Calls Try.prog 35 #[.int .i64 a, .int .i64 n, .int .i64 d] w fun r w' => r = .returned (.tuple #[.int .i64 (a * n / d), .int .i64 (a * n % d)]) ∧ w = w' := by
  have hd0 : ¬ d = 0 := by omega
  obtain ⟨ha1, ha2⟩ := ha
  obtain ⟨hn1, hn2⟩ := hn
  obtain ⟨hd1, hd2⟩ := hd
  go_enter Try.func35, Try.ntmps35
  go_wp2_with fail
  go_loop [8, 9, 10] (fun q r i => ∃ (k : Nat) (Q R : Int), k ≤ 63 ∧ i = .int .i64 ((k : Int) - 1) ∧ q = .int .i64 Q ∧ r = .int .i64 R ∧ 0 ≤ Q ∧ 0 ≤ R ∧ R < d ∧ Q * d + R = a * (n / 2 ^ k)) (fun _ _ i => (intOf i + 1).toNat)
  case atStart =>
    refine ⟨63, 0, 0, Nat.le_refl _, rfl, rfl, rfl, by omega, by omega, by omega, ?_⟩
    rw [show n / 2 ^ 63 = 0 from Int.ediv_eq_zero_of_lt hn1 (by omega)]
    simp
  case round =>
    obtain ⟨k, Q, R, hk, rfl, rfl, rfl, h1, h2, h3, h4⟩ := hrel
    have H4 := Lib.hid h4
    clear h4
    by_cases hkz : 0 < k
    · obtain ⟨j, rfl⟩ : ∃ j, k = j + 1 := ⟨k - 1, by omega⟩
      have hQa := quo_le ha1 (Int.le_trans (part_le hn1 (j + 1)).2 hn2) hd1 h2 H4.out
      have g0 : 0 ≤ ((j + 1 : Nat) : Int) - 1 := by omega
      have hsub : ((j + 1 : Nat) : Int) - 1 = (j : Int) := by omega
      have hT : n / 2 ^ j = 2 * (n / 2 ^ (j + 1)) + n / 2 ^ j % 2 := by rw [half]; omega
      have hr1 : 0 ≤ a % d := Int.emod_nonneg _ hd0
      have hr2 : a % d < d := Int.emod_lt_of_pos _ (by omega)
      have hq1 : 0 ≤ a / d := Int.ediv_nonneg ha1 (by omega)
      have hq2 : a / d ≤ a := Int.ediv_le_self _ ha1
      rcases Int.emod_two_eq (n / 2 ^ j) with ht | ht
      · have hb : (bits BinOp.and IntKind.i64 (n / 2 ^ j) 1 == 1) = false := by rw [i64_and1, ht]; rfl
        have hS := step0 (T := n / 2 ^ j) hd1 H4.out (by omega)
        have x1 : 0 ≤ 2 * R / d := Int.ediv_nonneg (by omega) (by omega)
        have x2 : 2 * R / d ≤ 2 * R := Int.ediv_le_self _ (by omega)
        have x3 : 0 ≤ 2 * R % d := Int.emod_nonneg _ hd0
        have x4 : 2 * R % d < d := Int.emod_lt_of_pos _ (by omega)
        have hle := quo_le ha1 (Int.le_trans (part_le hn1 j).2 hn2) hd1 x3 hS
        have hgt : ¬ 2251799813685248 < 2 * Q + 2 * R / d := by omega
        have w1 : IntKind.i64.wrap (2 * Q) = 2 * Q := IntWalk.i64_in _ (by omega)
        have w2 : IntKind.i64.wrap (2 * R) = 2 * R := IntWalk.i64_in _ (by omega)
        have w3 : IntKind.i64.wrap (2 * Q + 2 * R / d) = 2 * Q + 2 * R / d := IntWalk.i64_in _ (by omega)
        have HS := Lib.hid hS
        have HT := Lib.hid hT
        have X3 := Lib.hid x3
        have X4 := Lib.hid x4
        have X0 := Lib.hid (show 0 ≤ 2 * Q + 2 * R / d by omega)
        clear hS hT ht x3 x4 hQa hle hr1 hr2 hq1 hq2
        go_wp2_with fail
        go_round
        case rel => exact ⟨j, _, _, by omega, by go_num, rfl, rfl, X0.out, X3.out, X4.out, HS.out⟩
        case measure => first | (simp [intOf]; done) | (simp [intOf]; omega)
      · have hb : (bits BinOp.and IntKind.i64 (n / 2 ^ j) 1 == 1) = true := by rw [i64_and1, ht]; rfl
        have hS := step1 (T := n / 2 ^ j) hd1 H4.out (by omega)
        have x1 : 0 ≤ (2 * R + a % d) / d := Int.ediv_nonneg (by omega) (by omega)
        have x2 : (2 * R + a % d) / d ≤ 2 * R + a % d := Int.ediv_le_self _ (by omega)
        have x3 : 0 ≤ (2 * R + a % d) % d := Int.emod_nonneg _ hd0
        have x4 : (2 * R + a % d) % d < d := Int.emod_lt_of_pos _ (by omega)
        have hle := quo_le ha1 (Int.le_trans (part_le hn1 j).2 hn2) hd1 x3 hS
        have hgt : ¬ 2251799813685248 < 2 * Q + a / d + (2 * R + a % d) / d := by omega
        have w1 : IntKind.i64.wrap (2 * Q) = 2 * Q := IntWalk.i64_in _ (by omega)
        have w2 : IntKind.i64.wrap (2 * R) = 2 * R := IntWalk.i64_in _ (by omega)
        have w4 : IntKind.i64.wrap (2 * Q + a / d) = 2 * Q + a / d := IntWalk.i64_in _ (by omega)
        have w5 : IntKind.i64.wrap (2 * R + a % d) = 2 * R + a % d := IntWalk.i64_in _ (by omega)
        have w3 : IntKind.i64.wrap (2 * Q + a / d + (2 * R + a % d) / d) = 2 * Q + a / d + (2 * R + a % d) / d := IntWalk.i64_in _ (by omega)
        have w6 : (2 * R + a % d).tdiv d = (2 * R + a % d) / d := Int.tdiv_eq_ediv_of_nonneg (by omega)
        have w8 : IntKind.i64.wrap ((2 * R + a % d) / d) = (2 * R + a % d) / d := IntWalk.i64_in _ (by omega)
        have w9 : 0 ≤ 2 * R + a % d := by omega
        have w7 : (2 * R + a % d).tmod d = (2 * R + a % d) % d := Int.tmod_eq_emod_of_nonneg (by omega)
        have em : (2 * R + a % d) % d = (2 * R + a) % d := by simp
        rw [em] at hS x3 x4
        clear em
        have HS := Lib.hid hS
        have HT := Lib.hid hT
        have X3 := Lib.hid x3
        have X4 := Lib.hid x4
        have X0 := Lib.hid (show 0 ≤ 2 * Q + a / d + (2 * R + a % d) / d by omega)
        clear hS hT ht x3 x4 hQa hle hr1 hr2 hq1 hq2
        go_wp2_with fail
        go_round
        case rel => exact ⟨j, _, _, by omega, by go_num, rfl, rfl, X0.out, X3.out, X4.out, HS.out⟩
        case measure => first | (simp [intOf]; done) | (simp [intOf]; omega)
    · obtain rfl : k = 0 := by omega
      have hu := (Int.ediv_emod_unique (a := a * n) (b := d) (r := R) (q := Q) (by omega)).2 ⟨by have := H4.out; rw [Int.pow_zero, Int.ediv_one] at this; rw [Int.mul_comm d Q]; omega, h2, h3⟩
      have HU := Lib.hid hu
      have hneg : ¬ 0 ≤ ((0 : Nat) : Int) - 1 := by omega
      clear hu
      go_wp2_with fail
      go_ret2
      exact ⟨congrArg Ending.returned (by rw [HU.out.1, HU.out.2]; rfl), rfl⟩
/-- so many of ten thousand parts, rounded -/
def pct (a p : Int) : Int := if 10000 - a * p % 10000 ≤ a * p % 10000 then a * p / 10000 + 1 else a * p / 10000
end Dc
end Go.Proofs.Ytdjlfdbdhacmjaa
