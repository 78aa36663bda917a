/-
  Digits: Normal and the reference's. No condition.
-/
import Derived.Test.YtohcdkkneikjmaaDigB
import Derived.BigQuiet
import Derived.StillTailTactics
import Derived.Lib.Overlaps
import Derived.Deep.DeepCutAuto
set_option maxRecDepth 100000
set_option linter.unusedVariables false
set_option linter.unusedSimpArgs false
namespace Go.Proofs.Ytohcdkkneikjmaa
open Go.RowKit

namespace Dg

def nrmE (b : Bool) : Int := if b = true then 0 else 12
def nrmV (s c : ByteArray) : Value := .tuple #[.string (bs (norm s.data.toList c.data.toList)), .int .i64 (nrmE (normOk s.data.toList c.data.toList))]
theorem nrm_no {s c : ByteArray} (h : normOk s.data.toList c.data.toList = false) : nrmV s c = .tuple #[.string ⟨#[]⟩, .int .i64 12] := by
  unfold nrmV nrmE; rw [h]; unfold norm; rw [h]; rfl
theorem nrm_yes {s c t : ByteArray} (h : normOk s.data.toList c.data.toList = true) (ht : t.data.toList = strip s.data.toList c.data.toList) : nrmV s c = .tuple #[.string t, .int .i64 0] := by
  unfold nrmV nrmE; rw [if_pos h]; unfold norm; rw [if_pos h, ← ht, bs_eta]
theorem nok_c {s c : ByteArray} (h : valid c.data.toList = false) : normOk s.data.toList c.data.toList = false := by simp [normOk, h]
theorem nok_s {s c t : ByteArray} (ht : t.data.toList = strip s.data.toList c.data.toList) (h : valid t.data.toList = false) : normOk s.data.toList c.data.toList = false := by rw [normOk, ← ht, h]; simp
theorem nok_y {s c t : ByteArray} (hc : valid c.data.toList = true) (ht : t.data.toList = strip s.data.toList c.data.toList) (h : valid t.data.toList = true) : normOk s.data.toList c.data.toList = true := by rw [normOk, ← ht, h, hc]; rfl
theorem pre_len {s : ByteArray} {p : List UInt8} (h : Lib.hasPrefix s.data.toList p = true) : p.length ≤ s.size := by
  have : p <+: s.data.toList := by simpa [Lib.hasPrefix] using h
  have := this.length_le
  rw [size_list] at this
  exact this
theorem ext1 (s : ByteArray) (k : Nat) : (s.extract k s.size).data.toList = s.data.toList.drop k := by
  rw [Lib.extract_data, List.take_of_length_le (by rw [List.length_drop, size_list]; exact Nat.le_refl _)]
theorem app1 (a b : ByteArray) : (a ++ b).data.toList = a.data.toList ++ b.data.toList := by simp

/-- the four ways of what is stripped -/
theorem strip_cases (s c : ByteArray) : ∃ t : ByteArray, t.data.toList = strip s.data.toList c.data.toList ∧
    ((Lib.hasPrefix s.data.toList [43] = true ∧ 1 ≤ s.size ∧ t = s.extract 1 s.size) ∨
     (Lib.hasPrefix s.data.toList [43] = false ∧ Lib.hasPrefix s.data.toList [48, 48] = true ∧ 2 ≤ s.size ∧ t = s.extract 2 s.size) ∨
     (Lib.hasPrefix s.data.toList [43] = false ∧ Lib.hasPrefix s.data.toList [48, 48] = false ∧ Lib.hasPrefix s.data.toList [48] = true ∧ 1 ≤ s.size ∧ t = c ++ s.extract 1 s.size) ∨
     (Lib.hasPrefix s.data.toList [43] = false ∧ Lib.hasPrefix s.data.toList [48, 48] = false ∧ Lib.hasPrefix s.data.toList [48] = false ∧ t = s)) := by
  cases h1 : Lib.hasPrefix s.data.toList [43]
  · cases h2 : Lib.hasPrefix s.data.toList [48, 48]
    · cases h3 : Lib.hasPrefix s.data.toList [48]
      · exact ⟨s, by simp [strip, plus, zz, zr, h1, h2, h3], .inr (.inr (.inr ⟨rfl, rfl, rfl, rfl⟩))⟩
      · exact ⟨_, by rw [app1, ext1]; simp [strip, plus, zz, zr, h1, h2, h3], .inr (.inr (.inl ⟨rfl, rfl, rfl, pre_len h3, rfl⟩))⟩
    · exact ⟨_, by rw [ext1]; simp [strip, plus, zz, zr, h1, h2], .inr (.inl ⟨rfl, rfl, pre_len h2, rfl⟩)⟩
  · exact ⟨_, by rw [ext1]; simp [strip, plus, zz, zr, h1], .inl ⟨rfl, pre_len h1, rfl⟩⟩

set_option maxHeartbeats 1000000 in
theorem normal_any (s c : ByteArray) (w : World) (hs : s.size ≤ 1000) (hc : c.size ≤ 1000) :
    Calls Try.prog 14 #[.string s, .string c] w fun e w' => e = .returned (nrmV s c) ∧ w = w' := by
  have hm1 : s.size ≤ maxLen := by unfold maxLen; omega
  have hm2 : c.size ≤ maxLen := by unfold maxLen; omega
  have HM1 := Lib.hid hm1
  have HM2 := Lib.hid hm2
  clear hm1 hm2
  cases hv : valid c.data.toList
  · have HN := Lib.hid (nrm_no (nok_c (s := s) hv))
    go_enter Try.func14, Try.ntmps14
    go_wp2_with (go_at_call 16; refine (valid_any _ _ HM2.out).mono ?_; rintro e w' ⟨rfl, rfl⟩)
    go_ret2
    exact ⟨congrArg Ending.returned HN.out.symm, rfl⟩
  · obtain ⟨t, ht, hcases⟩ := strip_cases s c
    have HT := Lib.hid ht
    have htm : t.size ≤ maxLen := by
      rw [← size_list, ht]
      have : (strip s.data.toList c.data.toList).length ≤ 2000 := by
        unfold strip
        repeat' split
        all_goals simp only [List.length_drop, List.length_append, size_list]
        all_goals omega
      unfold maxLen; omega
    have HTM := Lib.hid htm
    clear ht htm
    cases hvt : valid t.data.toList
    · have HN := Lib.hid (nrm_no (nok_s HT.out hvt))
      have HVC := Lib.hid hv
      have HVT := Lib.hid hvt
      clear hv hvt
      rcases hcases with ⟨h1, h2, rfl⟩ | ⟨h1, h2, h3, rfl⟩ | ⟨h1, h2, h3, h4, rfl⟩ | ⟨h1, h2, h3, rfl⟩
      all_goals
        go_enter Try.func14, Try.ntmps14
        go_wp2_with (first
          | (go_at_call 13; refine (prefix_any _ _ _).mono ?_; rintro e w' ⟨rfl, rfl⟩)
          | (go_at_call 16; (with_reducible refine (valid_any c _ HM2.out).mono ?_); rw [HVC.out]; rintro e w' ⟨rfl, rfl⟩)
          | (go_at_call 16; (with_reducible refine (valid_any _ _ HTM.out).mono ?_); rw [HVT.out]; rintro e w' ⟨rfl, rfl⟩))
        go_ret2
        exact ⟨congrArg Ending.returned HN.out.symm, rfl⟩
    · have HN := Lib.hid (nrm_yes (nok_y hv HT.out hvt) HT.out)
      have HVC := Lib.hid hv
      have HVT := Lib.hid hvt
      clear hv hvt
      rcases hcases with ⟨h1, h2, rfl⟩ | ⟨h1, h2, h3, rfl⟩ | ⟨h1, h2, h3, h4, rfl⟩ | ⟨h1, h2, h3, rfl⟩
      all_goals
        go_enter Try.func14, Try.ntmps14
        go_wp2_with (first
          | (go_at_call 13; refine (prefix_any _ _ _).mono ?_; rintro e w' ⟨rfl, rfl⟩)
          | (go_at_call 16; (with_reducible refine (valid_any c _ HM2.out).mono ?_); rw [HVC.out]; rintro e w' ⟨rfl, rfl⟩)
          | (go_at_call 16; (with_reducible refine (valid_any _ _ HTM.out).mono ?_); rw [HVT.out]; rintro e w' ⟨rfl, rfl⟩))
        go_ret2
        exact ⟨congrArg Ending.returned HN.out.symm, rfl⟩

set_option maxHeartbeats 1000000 in
theorem refnormal_any (s c : ByteArray) (w : World) (hs : s.size ≤ 1000) (hc : c.size ≤ 1000) :
    Calls Try.prog 15 #[.string s, .string c] w fun e w' => e = .returned (nrmV s c) ∧ w = w' := by
  have hm1 : s.size ≤ maxLen := by unfold maxLen; omega
  have hm2 : c.size ≤ maxLen := by unfold maxLen; omega
  have HM1 := Lib.hid hm1
  have HM2 := Lib.hid hm2
  clear hm1 hm2
  cases hv : valid c.data.toList
  · have HN := Lib.hid (nrm_no (nok_c (s := s) hv))
    go_enter Try.func15, Try.ntmps15
    go_wp2_with (go_at_call 23; refine (refvalid_any _ _ HM2.out).mono ?_; rintro e w' ⟨rfl, rfl⟩)
    go_ret2
    exact ⟨congrArg Ending.returned HN.out.symm, rfl⟩
  · obtain ⟨t, ht, hcases⟩ := strip_cases s c
    have HT := Lib.hid ht
    have htm : t.size ≤ maxLen := by
      rw [← size_list, ht]
      have : (strip s.data.toList c.data.toList).length ≤ 2000 := by
        unfold strip
        repeat' split
        all_goals simp only [List.length_drop, List.length_append, size_list]
        all_goals omega
      unfold maxLen; omega
    have HTM := Lib.hid htm
    clear ht htm
    cases hvt : valid t.data.toList
    · have HN := Lib.hid (nrm_no (nok_s HT.out hvt))
      have HVC := Lib.hid hv
      have HVT := Lib.hid hvt
      clear hv hvt
      rcases hcases with ⟨h1, h2, rfl⟩ | ⟨h1, h2, h3, rfl⟩ | ⟨h1, h2, h3, h4, rfl⟩ | ⟨h1, h2, h3, rfl⟩
      all_goals
        go_enter Try.func15, Try.ntmps15
        go_wp2_with (first
          | (go_at_call 24; refine (refprefix_any _ _ _).mono ?_; rintro e w' ⟨rfl, rfl⟩)
          | (go_at_call 23; (with_reducible refine (refvalid_any c _ HM2.out).mono ?_); rw [HVC.out]; rintro e w' ⟨rfl, rfl⟩)
          | (go_at_call 23; (with_reducible refine (refvalid_any _ _ HTM.out).mono ?_); rw [HVT.out]; rintro e w' ⟨rfl, rfl⟩))
        go_ret2
        exact ⟨congrArg Ending.returned HN.out.symm, rfl⟩
    · have HN := Lib.hid (nrm_yes (nok_y hv HT.out hvt) HT.out)
      have HVC := Lib.hid hv
      have HVT := Lib.hid hvt
      clear hv hvt
      rcases hcases with ⟨h1, h2, rfl⟩ | ⟨h1, h2, h3, rfl⟩ | ⟨h1, h2, h3, h4, rfl⟩ | ⟨h1, h2, h3, rfl⟩
      all_goals
        go_enter Try.func15, Try.ntmps15
        go_wp2_with (first
          | (go_at_call 24; refine (refprefix_any _ _ _).mono ?_; rintro e w' ⟨rfl, rfl⟩)
          | (go_at_call 23; (with_reducible refine (refvalid_any c _ HM2.out).mono ?_); rw [HVC.out]; rintro e w' ⟨rfl, rfl⟩)
          | (go_at_call 23; (with_reducible refine (refvalid_any _ _ HTM.out).mono ?_); rw [HVT.out]; rintro e w' ⟨rfl, rfl⟩))
        go_ret2
        exact ⟨congrArg Ending.returned HN.out.symm, rfl⟩

end Dg
end Go.Proofs.Ytohcdkkneikjmaa
