/-
  Digits: digit, Valid, and the reference's. No condition.
-/
import Derived.Test.YteaanngagcflhaaRows
import Derived.Test.YteaanngagcflhaaCom
import Derived.Test.YteaanngagcflhaaDigP
import Derived.BigQuiet
import Derived.StillTailTactics
import Derived.Lib.Overlaps
import Derived.Deep.DeepCutAuto
set_option maxRecDepth 100000
set_option linter.unusedVariables false
set_option linter.unusedSimpArgs false
namespace Go.Proofs.Yteaanngagcflhaa
open Go.RowKit

namespace Dg

theorem digit_any (c : UInt8) (w : World) :
    Calls Try.prog 115 #[.int .u8 (c.toNat : Int)] w fun e w' => e = .returned (.bool (dig c)) ∧ w = w' := by
  go_enter Try.func115, Try.ntmps115
  go_wp2
  all_goals (go_ret; refine ⟨ret_bool ?_, rfl⟩; unfold dig; rw [Bool.eq_iff_iff]; simp; try omega)

theorem take_snoc (s : ByteArray) (k : Nat) (h : k < s.size) : s.data.toList.take (k + 1) = s.data.toList.take k ++ [s[k]] := by
  rw [List.take_succ_eq_append_getElem (by simpa using h)]; rfl
theorem size_list (s : ByteArray) : s.data.toList.length = s.size := by rw [Array.length_toList]; rfl
theorem allDig_succ {s : ByteArray} {k : Nat} (h : k < s.size) (ha : (s.data.toList.take k).all dig = true) (hd : dig s[k] = true) : (s.data.toList.take (k + 1)).all dig = true := by
  rw [take_snoc s k h, List.all_append, ha]; simp [hd]
theorem valid_no {s : ByteArray} {k : Nat} (h : k < s.size) (hd : dig s[k] = false) : valid s.data.toList = false := by
  have h1 : s.data.toList.all dig = false := by
    rw [List.all_eq_false]
    exact ⟨s[k], by rw [show s[k] = s.data.toList[k]'(by rw [size_list]; exact h) from rfl]; exact List.getElem_mem _, by rw [hd]; decide⟩
  simp [valid, h1]
theorem valid_end {s : ByteArray} (ha : (s.data.toList.take s.size).all dig = true) : valid s.data.toList = (decide (1 ≤ s.size) && decide (s.size ≤ 15)) := by
  rw [List.take_of_length_le (by rw [size_list]; exact Nat.le_refl _)] at ha
  unfold valid
  rw [ha, size_list]; rfl

set_option maxHeartbeats 400000 in
theorem valid_any (s : ByteArray) (w : World) (hs : s.size ≤ maxLen) :
    Calls Try.prog 95 #[.string s] w fun e w' => e = .returned (.bool (valid s.data.toList)) ∧ w = w' := by
  unfold maxLen at hs
  go_enter Try.func95, Try.ntmps95
  go_wp2_with fail
  go_loop [6] (fun i => ∃ k : Nat, k ≤ s.size ∧ i = .int .i64 k ∧ (s.data.toList.take k).all dig = true) (fun i => s.size - (intOf i).toNat)
  case atStart => exact ⟨0, Nat.zero_le _, rfl, by simp⟩
  case round =>
    obtain ⟨k, hk, rfl, ha⟩ := hrel
    have HA := Lib.hid ha
    clear ha
    by_cases hlt : k < s.size
    · cases hd : dig s[k]
      · have HN := Lib.hid (valid_no hlt hd)
        go_wp2_with (go_at_call 115; refine (digit_any _ _).mono ?_; rintro e w' ⟨rfl, rfl⟩)
        go_ret
        exact ⟨ret_bool HN.out.symm, rfl⟩
      · have HN := Lib.hid (allDig_succ hlt HA.out hd)
        go_wp2_with (go_at_call 115; refine (digit_any _ _).mono ?_; rintro e w' ⟨rfl, rfl⟩)
        go_round
        case rel => exact ⟨k + 1, by omega, by go_num, HN.out⟩
        case measure => simp [intOf]; omega
    · obtain rfl : s.size = k := by omega
      have HV := Lib.hid (valid_end HA.out)
      go_wp2_with fail
      all_goals (go_ret; refine ⟨ret_bool ?_, rfl⟩; rw [HV.out]; (rw [Bool.eq_iff_iff]; (try simp only [Bool.and_eq_true, Bool.or_eq_true, Bool.not_eq_true', decide_eq_true_eq, decide_eq_false_iff_not, Bool.false_eq_true, Bool.true_eq_false, false_iff, true_iff, iff_false, iff_true]); omega))

set_option maxHeartbeats 400000 in
theorem refvalid_any (s : ByteArray) (w : World) (hs : s.size ≤ maxLen) :
    Calls Try.prog 120 #[.string s] w fun e w' => e = .returned (.bool (valid s.data.toList)) ∧ w = w' := by
  unfold maxLen at hs
  go_enter Try.func120, Try.ntmps120
  go_wp2_with fail
  go_loop [3] (fun i => ∃ k : Nat, k ≤ s.size ∧ i = .int .i64 k ∧ (s.data.toList.take k).all dig = true) (fun i => s.size - (intOf i).toNat)
  case atStart => exact ⟨0, Nat.zero_le _, rfl, by simp⟩
  case round =>
    obtain ⟨k, hk, rfl, ha⟩ := hrel
    have HA := Lib.hid ha
    clear ha
    by_cases hlt : k < s.size
    · go_wp2_with fail
      all_goals first
        | (go_ret
           refine ⟨ret_bool (valid_no hlt ?_).symm, rfl⟩
           unfold dig; rw [Bool.eq_iff_iff]; simp; omega)
        | (go_round
           case rel => exact ⟨k + 1, by omega, by go_num, allDig_succ hlt HA.out (by unfold dig; rw [Bool.eq_iff_iff]; simp; omega)⟩
           case measure => simp [intOf]; omega)
    · obtain rfl : s.size = k := by omega
      have HV := Lib.hid (valid_end HA.out)
      go_wp2_with fail
      all_goals (go_ret; refine ⟨ret_bool ?_, rfl⟩; rw [HV.out]; (rw [Bool.eq_iff_iff]; (try simp only [Bool.and_eq_true, Bool.or_eq_true, Bool.not_eq_true', decide_eq_true_eq, decide_eq_false_iff_not, Bool.false_eq_true, Bool.true_eq_false, false_iff, true_iff, iff_false, iff_true]); omega))

end Dg
end Go.Proofs.Yteaanngagcflhaa
