/-
  Expressions: numbers (ranged, attribute, sum, product, and the reference's). No condition.
-/
import Derived.Test.YtdjlfdbdhacmjaaExF
import Derived.BigQuiet
import Derived.StillTailTactics
import Derived.Lib.Overlaps
import Derived.Deep.DeepCutAuto
set_option maxRecDepth 100000
set_option linter.unusedVariables false
set_option linter.unusedSimpArgs false
namespace Go.Proofs.Ytdjlfdbdhacmjaa
open Go.RowKit

namespace Xp

def optV : Option Int → Value
  | some x => .tuple #[.int .i64 x, .bool true]
  | none => .tuple #[.int .i64 0, .bool false]
theorem ranged_any (n : Int) (w : World) : Calls Try.prog 52 #[.int .i64 n] w fun r w' => r = .returned (optV (rng n)) ∧ w = w' := by
  obtain ⟨R, hR⟩ : ∃ R, rng n = R := ⟨_, rfl⟩
  rw [hR]
  have HR := Lib.hid hR
  clear hR
  go_enter Try.func52, Try.ntmps52
  go_wp2
  all_goals
    go_ret2
    refine ⟨congrArg Ending.returned ?_, rfl⟩
    rw [← HR.out]
    unfold rng lim
    first
      | (rw [if_neg (by omega)]; rfl)
      | (rw [if_pos (by omega)]; rfl)
theorem refwithin_any (n : Int) (w : World) : Calls Try.prog 59 #[.int .i64 n, .bool true] w fun r w' => r = .returned (optV (rng n)) ∧ w = w' := by
  obtain ⟨R, hR⟩ : ∃ R, rng n = R := ⟨_, rfl⟩
  rw [hR]
  have HR := Lib.hid hR
  clear hR
  go_enter Try.func59, Try.ntmps59
  go_wp2
  all_goals
    go_ret2
    refine ⟨congrArg Ending.returned ?_, rfl⟩
    rw [← HR.out]
    unfold rng lim
    first
      | (rw [if_neg (by omega)]; rfl)
      | (rw [if_pos (by omega)]; rfl)

def Env.val (v : Env) : Value := .agg #[.int .i64 v.kind, .int .i64 v.units, .int .i64 v.weekday, .int .i64 v.minute, .int .i64 v.total, .int .i64 v.spent, .string v.zone, .string v.band, .bool v.family]
theorem name_cases (t : ByteArray) : (t = nKind ∨ t = nUnits ∨ t = nWeekday ∨ t = nMinute ∨ t = nTotal) ∨ (t ≠ nKind ∧ t ≠ nUnits ∧ t ≠ nWeekday ∧ t ≠ nMinute ∧ t ≠ nTotal) := by
  by_cases h : (t = nKind ∨ t = nUnits ∨ t = nWeekday ∨ t = nMinute ∨ t = nTotal)
  · exact .inl h
  · exact .inr (by simpa [not_or] using h)
set_option maxHeartbeats 1000000 in
theorem attrV_any (t : ByteArray) (v : Env) (w : World) : Calls Try.prog 53 #[.string t, v.val] w fun e w' => e = .returned (.int .i64 (attrV v t)) ∧ Below w.heap.size w w' := by
  unfold Env.val
  rcases name_cases t with h | ⟨h1, h2, h3, h4, h5⟩
  · rcases h with rfl | rfl | rfl | rfl | rfl
    all_goals
      go_enter Try.func53, Try.ntmps53
      simp only [nKind, nUnits, nWeekday, nMinute, nTotal]
      go_wp2
      go_ret
      exact ⟨ret_int (by rfl), by (repeat (first | exact Below.refl _ _ | exact Below.refl _ _ | (refine Below.alloc ?_ (by (try simp) <;> omega) _) | (refine Below.setCell ?_ (by (try simp) <;> omega) _) | refine Below.drew ?_ | refine below_drewN ?_ _))⟩
  · have HR := Lib.hid (show attrV v t = v.spent by simp [attrV, *])
    have e1 := ne_list h1 rfl
    have e2 := ne_list h2 rfl
    have e3 := ne_list h3 rfl
    have e4 := ne_list h4 rfl
    have e5 := ne_list h5 rfl
    clear h1 h2 h3 h4 h5
    go_enter Try.func53, Try.ntmps53
    go_wp2
    go_ret
    exact ⟨ret_int HR.out.symm, by (repeat (first | exact Below.refl _ _ | exact Below.refl _ _ | (refine Below.alloc ?_ (by (try simp) <;> omega) _) | (refine Below.setCell ?_ (by (try simp) <;> omega) _) | refine Below.drew ?_ | refine below_drewN ?_ _))⟩
set_option maxHeartbeats 1000000 in
theorem refattrV_any (t : ByteArray) (v : Env) (w : World) : Calls Try.prog 60 #[.string t, v.val] w fun e w' => e = .returned (.int .i64 (attrV v t)) ∧ Below w.heap.size w w' := by
  unfold Env.val
  rcases name_cases t with h | ⟨h1, h2, h3, h4, h5⟩
  · rcases h with rfl | rfl | rfl | rfl | rfl
    all_goals
      go_enter Try.func60, Try.ntmps60
      simp only [nKind, nUnits, nWeekday, nMinute, nTotal]
      go_wp2
      go_ret
      exact ⟨ret_int (by rfl), by (repeat (first | exact Below.refl _ _ | exact Below.refl _ _ | (refine Below.alloc ?_ (by (try simp) <;> omega) _) | (refine Below.setCell ?_ (by (try simp) <;> omega) _) | refine Below.drew ?_ | refine below_drewN ?_ _))⟩
  · have HR := Lib.hid (show attrV v t = v.spent by simp [attrV, *])
    have e1 := ne_list h1 rfl
    have e2 := ne_list h2 rfl
    have e3 := ne_list h3 rfl
    have e4 := ne_list h4 rfl
    have e5 := ne_list h5 rfl
    clear h1 h2 h3 h4 h5
    go_enter Try.func60, Try.ntmps60
    go_wp2
    go_ret
    exact ⟨ret_int HR.out.symm, by (repeat (first | exact Below.refl _ _ | exact Below.refl _ _ | (refine Below.alloc ?_ (by (try simp) <;> omega) _) | (refine Below.setCell ?_ (by (try simp) <;> omega) _) | refine Below.drew ?_ | refine below_drewN ?_ _))⟩

set_option maxHeartbeats 1000000 in
theorem sum_any (x y : Int) (w : World) (hx1 : -4611686018427387904 ≤ x) (hx2 : x ≤ 4611686018427387904) (hy1 : -4611686018427387904 ≤ y) (hy2 : y ≤ 4611686018427387904) :
    Calls Try.prog 55 #[.int .i64 x, .int .i64 y] w fun r w' => r = .returned (optV (addE x y)) ∧ w = w' := by
  obtain ⟨R, hR⟩ : ∃ R, addE x y = R := ⟨_, rfl⟩
  rw [hR]
  have HR := Lib.hid hR
  clear hR
  go_enter Try.func55, Try.ntmps55
  go_wp2
  all_goals
    go_ret2
    refine ⟨congrArg Ending.returned ?_, rfl⟩
    rw [← HR.out]
    unfold addE rng lim
    first
      | (rw [if_neg (by omega)]; rfl)
      | (rw [if_pos (by omega)]; rfl)
set_option maxHeartbeats 1000000 in
theorem refadd_any (x y : Int) (w : World) (hx1 : -4611686018427387904 ≤ x) (hx2 : x ≤ 4611686018427387904) (hy1 : -4611686018427387904 ≤ y) (hy2 : y ≤ 4611686018427387904) :
    Calls Try.prog 61 #[.int .i64 x, .int .i64 y] w fun r w' => r = .returned (optV (addE x y)) ∧ w = w' := by
  obtain ⟨R, hR⟩ : ∃ R, addE x y = R := ⟨_, rfl⟩
  rw [hR]
  have HR := Lib.hid hR
  clear hR
  go_enter Try.func61, Try.ntmps61
  go_wp2
  all_goals
    go_ret2
    refine ⟨congrArg Ending.returned ?_, rfl⟩
    rw [← HR.out]
    unfold addE rng lim
    first
      | (rw [if_neg (by omega)]; rfl)
      | (rw [if_pos (by omega)]; rfl)

/-- a product is a number exactly if a factor is not above the quotient -/
theorem prod_bd (x y p q : Int) (hp : p = x ∨ p = -x) (hq : q = y ∨ q = -y) (hp1 : 0 ≤ p) (hq1 : 1 ≤ q) : (p ≤ 4611686018427387904 / q) ↔ (-4611686018427387904 ≤ x * y ∧ x * y ≤ 4611686018427387904) := by
  rw [Int.le_ediv_iff_mul_le (by omega)]
  have h0 : 0 ≤ p * q := Int.mul_nonneg hp1 (by omega)
  have h1 : p * q = x * y ∨ p * q = -(x * y) := by
    rcases hp with rfl | rfl <;> rcases hq with rfl | rfl
    · exact .inl rfl
    · exact .inr (by rw [Int.mul_neg])
    · exact .inr (by rw [Int.neg_mul])
    · exact .inl (by rw [Int.neg_mul_neg])
  omega
theorem wrap_in (m : Int) (h : -4611686018427387904 ≤ m ∧ m ≤ 4611686018427387904) : IntKind.i64.wrap m = m := IntWalk.i64_in _ (by omega)
theorem mulE_yes {x y : Int} (h : -4611686018427387904 ≤ x * y ∧ x * y ≤ 4611686018427387904) : mulE x y = some (x * y) := by
  unfold mulE rng lim; rw [if_neg (by omega)]
theorem mulE_no {x y : Int} (h : ¬ (-4611686018427387904 ≤ x * y ∧ x * y ≤ 4611686018427387904)) : mulE x y = none := by
  unfold mulE rng lim; rw [if_pos (by omega)]

theorem quo_neg (y Q : Int) (hy : y < 0) (h : 4611686018427387904 / (-y) = Q) : wrap64 (-Int.tdiv 4611686018427387904 y) = Q := by
  have h1 : -Int.tdiv 4611686018427387904 y = Q := by
    rw [← Int.tdiv_neg, Int.tdiv_eq_ediv_of_nonneg (by omega)]; exact h
  have h2 : 0 ≤ Q := by rw [← h]; exact Int.ediv_nonneg (by omega) (by omega)
  have h3 : Q ≤ 4611686018427387904 := by
    rw [← h]
    exact Int.ediv_le_self _ (by omega)
  rw [h1]
  exact IntWalk.wrap64_in _ ⟨by omega, by omega⟩
set_option maxHeartbeats 2000000 in
theorem product_any (x y : Int) (w : World) (hx1 : -4611686018427387904 ≤ x) (hx2 : x ≤ 4611686018427387904) (hy1 : -4611686018427387904 ≤ y) (hy2 : y ≤ 4611686018427387904) :
    Calls Try.prog 56 #[.int .i64 x, .int .i64 y] w fun r w' => r = .returned (optV (mulE x y)) ∧ w = w' := by
  by_cases hx0 : x = 0
  · subst hx0
    have HR := Lib.hid (show mulE 0 y = some 0 by rw [mulE_yes (by simp)]; simp)
    go_enter Try.func56, Try.ntmps56
    go_wp2
    go_ret2
    exact ⟨congrArg Ending.returned (by rw [HR.out]; rfl), rfl⟩
  · by_cases hy0 : y = 0
    · subst hy0
      have HR := Lib.hid (show mulE x 0 = some 0 by rw [mulE_yes (by simp)]; simp)
      have hx3 : (x == 0) = false := by simpa using hx0
      clear hx0
      go_enter Try.func56, Try.ntmps56
      go_wp2
      go_ret2
      exact ⟨congrArg Ending.returned (by rw [HR.out]; rfl), rfl⟩
    · have hx3 : (x == 0) = false := by simpa using hx0
      have hy3 : (y == 0) = false := by simpa using hy0
      have hsx : 0 < x ∨ x < 0 := by omega
      have hsy : 0 < y ∨ y < 0 := by omega
      clear hx0 hy0
      by_cases hin : -4611686018427387904 ≤ x * y ∧ x * y ≤ 4611686018427387904
      · have HR := Lib.hid (mulE_yes hin)
        have hw := wrap_in _ hin
        rcases hsx with sx | sx <;> rcases hsy with sy | sy
        · have hb := prod_bd x y (x) (y) (.inl rfl) (.inl rfl) (by omega) (by omega)
          have hle := hb.2 hin
          have d1 : decide (4611686018427387904 / y < x) = false := decide_eq_false (by omega)
          clear hb hle
          obtain ⟨m1, m2⟩ := hin
          go_enter Try.func56, Try.ntmps56
          go_wp2
          go_ret2
          exact ⟨congrArg Ending.returned (by rw [HR.out]; rfl), rfl⟩
        · have hb := prod_bd x y (x) (-y) (.inl rfl) (.inr rfl) (by omega) (by omega)
          obtain ⟨Q, hQ⟩ : ∃ Q, 4611686018427387904 / (-y) = Q := ⟨_, rfl⟩
          have hwq := quo_neg y Q sy hQ
          rw [hQ] at hb
          clear hQ
          have hle := hb.2 hin
          have d1 : decide (Q < x) = false := decide_eq_false (by omega)
          clear hb hle
          obtain ⟨m1, m2⟩ := hin
          go_enter Try.func56, Try.ntmps56
          go_wp2
          go_ret2
          exact ⟨congrArg Ending.returned (by rw [HR.out]; rfl), rfl⟩
        · have hb := prod_bd x y (-x) (y) (.inr rfl) (.inl rfl) (by omega) (by omega)
          have hle := hb.2 hin
          have d1 : decide (4611686018427387904 / y < -x) = false := decide_eq_false (by omega)
          clear hb hle
          obtain ⟨m1, m2⟩ := hin
          go_enter Try.func56, Try.ntmps56
          go_wp2
          go_ret2
          exact ⟨congrArg Ending.returned (by rw [HR.out]; rfl), rfl⟩
        · have hb := prod_bd x y (-x) (-y) (.inr rfl) (.inr rfl) (by omega) (by omega)
          obtain ⟨Q, hQ⟩ : ∃ Q, 4611686018427387904 / (-y) = Q := ⟨_, rfl⟩
          have hwq := quo_neg y Q sy hQ
          rw [hQ] at hb
          clear hQ
          have hle := hb.2 hin
          have d1 : decide (Q < -x) = false := decide_eq_false (by omega)
          clear hb hle
          obtain ⟨m1, m2⟩ := hin
          go_enter Try.func56, Try.ntmps56
          go_wp2
          go_ret2
          exact ⟨congrArg Ending.returned (by rw [HR.out]; rfl), rfl⟩
      · have HR := Lib.hid (mulE_no hin)
        rcases hsx with sx | sx <;> rcases hsy with sy | sy
        · have hb := prod_bd x y (x) (y) (.inl rfl) (.inl rfl) (by omega) (by omega)
          have hle := fun h => hin (hb.1 h)
          have d1 : decide (4611686018427387904 / y < x) = true := decide_eq_true (by omega)
          clear hb hle hin
          go_enter Try.func56, Try.ntmps56
          go_wp2
          go_ret2
          exact ⟨congrArg Ending.returned (by rw [HR.out]; rfl), rfl⟩
        · have hb := prod_bd x y (x) (-y) (.inl rfl) (.inr rfl) (by omega) (by omega)
          obtain ⟨Q, hQ⟩ : ∃ Q, 4611686018427387904 / (-y) = Q := ⟨_, rfl⟩
          have hwq := quo_neg y Q sy hQ
          rw [hQ] at hb
          clear hQ
          have hle := fun h => hin (hb.1 h)
          have d1 : decide (Q < x) = true := decide_eq_true (by omega)
          clear hb hle hin
          go_enter Try.func56, Try.ntmps56
          go_wp2
          go_ret2
          exact ⟨congrArg Ending.returned (by rw [HR.out]; rfl), rfl⟩
        · have hb := prod_bd x y (-x) (y) (.inr rfl) (.inl rfl) (by omega) (by omega)
          have hle := fun h => hin (hb.1 h)
          have d1 : decide (4611686018427387904 / y < -x) = true := decide_eq_true (by omega)
          clear hb hle hin
          go_enter Try.func56, Try.ntmps56
          go_wp2
          go_ret2
          exact ⟨congrArg Ending.returned (by rw [HR.out]; rfl), rfl⟩
        · have hb := prod_bd x y (-x) (-y) (.inr rfl) (.inr rfl) (by omega) (by omega)
          obtain ⟨Q, hQ⟩ : ∃ Q, 4611686018427387904 / (-y) = Q := ⟨_, rfl⟩
          have hwq := quo_neg y Q sy hQ
          rw [hQ] at hb
          clear hQ
          have hle := fun h => hin (hb.1 h)
          have d1 : decide (Q < -x) = true := decide_eq_true (by omega)
          clear hb hle hin
          go_enter Try.func56, Try.ntmps56
          go_wp2
          go_ret2
          exact ⟨congrArg Ending.returned (by rw [HR.out]; rfl), rfl⟩

def absI (x : Int) : Int := if x < 0 then -x else x
theorem refsize_any (x : Int) (w : World) (hx1 : -4611686018427387904 ≤ x) :
    Calls Try.prog 64 #[.int .i64 x] w fun r w' => r = .returned (.int .i64 (absI x)) ∧ w = w' := by
  have HA := Lib.hid (show absI x = if x < 0 then -x else x from rfl)
  go_enter Try.func64, Try.ntmps64
  go_wp2
  all_goals
    go_ret
    refine ⟨ret_int ?_, rfl⟩
    rw [HA.out]
    first
      | (rw [if_pos (by assumption)])
      | (rw [if_neg (by omega)])
set_option maxHeartbeats 2000000 in
theorem refmul_any (x y : Int) (w : World) (hx1 : -4611686018427387904 ≤ x) (hx2 : x ≤ 4611686018427387904) (hy1 : -4611686018427387904 ≤ y) (hy2 : y ≤ 4611686018427387904) :
    Calls Try.prog 62 #[.int .i64 x, .int .i64 y] w fun r w' => r = .returned (optV (mulE x y)) ∧ w = w' := by
  by_cases hx0 : x = 0
  · subst hx0
    have HR := Lib.hid (show mulE 0 y = some 0 by rw [mulE_yes (by simp)]; simp)
    go_enter Try.func62, Try.ntmps62
    go_wp2_with fail
    go_ret2
    exact ⟨congrArg Ending.returned (by rw [HR.out]; simp; rfl), rfl⟩
  · obtain ⟨p, hp, hp1, hp2, hp3⟩ : ∃ p, absI x = p ∧ (p = x ∨ p = -x) ∧ 1 ≤ p ∧ p ≤ 4611686018427387904 := ⟨absI x, rfl, by unfold absI; split <;> omega, by unfold absI; split <;> omega, by unfold absI; split <;> omega⟩
    obtain ⟨q, hq, hq1, hq2, hq3⟩ : ∃ q, absI y = q ∧ (q = y ∨ q = -y) ∧ 0 ≤ q ∧ q ≤ 4611686018427387904 := ⟨absI y, rfl, by unfold absI; split <;> omega, by unfold absI; split <;> omega, by unfold absI; split <;> omega⟩
    have hb := prod_bd y x q p hq1 hp1 hq2 hp2
    rw [Int.mul_comm y x] at hb
    have hx3 : (x != 0) = true := by simpa using hx0
    have HP := Lib.hid hp
    have HQ := Lib.hid hq
    clear hx0 hp1 hq1 hp hq
    by_cases hin : -4611686018427387904 ≤ x * y ∧ x * y ≤ 4611686018427387904
    · have HR := Lib.hid (mulE_yes hin)
      have hle := hb.2 hin
      have d1 : decide (q > 4611686018427387904 / p) = false := decide_eq_false (by omega)
      have d2 : decide (4611686018427387904 / p < q) = false := decide_eq_false (by omega)
      have hw := wrap_in _ hin
      obtain ⟨m1, m2⟩ := hin
      clear hb hle
      go_enter Try.func62, Try.ntmps62
      go_wp2_with fail
      refine (refsize_any y _ hy1).mono ?_
      rw [HQ.out]
      rintro r w' ⟨rfl, rfl⟩
      go_wp2_with fail
      refine (refsize_any x _ hx1).mono ?_
      rw [HP.out]
      rintro r w' ⟨rfl, rfl⟩
      go_wp2_with fail
      go_ret2
      exact ⟨congrArg Ending.returned (by rw [HR.out]; rfl), rfl⟩
    · have HR := Lib.hid (mulE_no hin)
      have hle : ¬ (q ≤ 4611686018427387904 / p) := fun h => hin (hb.1 h)
      have d1 : decide (q > 4611686018427387904 / p) = true := decide_eq_true (by omega)
      have d2 : decide (4611686018427387904 / p < q) = true := decide_eq_true (by omega)
      clear hb hle hin
      go_enter Try.func62, Try.ntmps62
      go_wp2_with fail
      refine (refsize_any y _ hy1).mono ?_
      rw [HQ.out]
      rintro r w' ⟨rfl, rfl⟩
      go_wp2_with fail
      refine (refsize_any x _ hx1).mono ?_
      rw [HP.out]
      rintro r w' ⟨rfl, rfl⟩
      go_wp2_with fail
      go_ret2
      exact ⟨congrArg Ending.returned (by rw [HR.out]; rfl), rfl⟩

theorem compared_any (op n : Int) (w : World) : Calls Try.prog 50 #[.int .i64 op, .int .i64 n] w fun r w' => r = .returned (.bool (test op n)) ∧ w = w' := by
  have HT := Lib.hid (show test op n = if op = 7 then decide (n = 0) else if op = 8 then decide (n ≠ 0) else if op = 9 then decide (n < 0) else decide (n ≤ 0) from rfl)
  have ho : op = 7 ∨ op = 8 ∨ op = 9 ∨ ((op == 7) = false ∧ (op == 8) = false ∧ (op == 9) = false) := by simp; omega
  rcases ho with rfl | rfl | rfl | ⟨o1, o2, o3⟩
  all_goals
    go_enter Try.func50, Try.ntmps50
    go_wp2
    go_ret
    refine ⟨ret_bool ?_, rfl⟩
    rw [HT.out]
    (simp_all) <;> rfl

end Xp
end Go.Proofs.Ytdjlfdbdhacmjaa
