/-
  Customers: both names. No condition.
-/
import Derived.Test.YteaanngagcflhaaCuD
import Derived.BigQuiet
import Derived.StillTailTactics
import Derived.Lib.Overlaps
import Derived.Deep.DeepCutAuto
import Derived.Deep.RegionWith
import Derived.Laws.RangeAny
set_option maxRecDepth 100000
set_option linter.unusedVariables false
set_option linter.unusedSimpArgs false
namespace Go.Proofs.Yteaanngagcflhaa
open Go.RowKit

namespace Cu
theorem sz_list (s : ByteArray) : s.data.toList.length = s.size := by rw [Array.length_toList]; rfl
theorem at_list (s : ByteArray) (k : Nat) (h : k < s.size) : s.data.toList[k]? = some s[k] := by
  rw [List.getElem?_eq_getElem (by rw [sz_list]; exact h)]; rfl
theorem nm_iff (l : List UInt8) : nmB l = true ↔ 1 ≤ l.length ∧ l.length ≤ 24 ∧ (∀ c, l[0]? = some c → 97 ≤ c.toNat ∧ c.toNat ≤ 122) ∧ ∀ i c, 1 ≤ i → l[i]? = some c → nmC c = true := by
  cases l with
  | nil => simp [nmB]
  | cons a r =>
    simp only [nmB, Bool.and_eq_true, decide_eq_true_eq, List.all_eq_true]
    constructor
    · rintro ⟨⟨h1, h2⟩, h3⟩
      refine ⟨by simp, h1, fun c hc => by simp at hc; subst hc; exact h2, fun i c hi hc => ?_⟩
      obtain ⟨j, rfl⟩ := Nat.exists_eq_add_of_le hi
      rw [Nat.add_comm, List.getElem?_cons_succ] at hc
      exact h3 c (List.mem_of_getElem? hc)
    · rintro ⟨_, h1, h2, h3⟩
      refine ⟨⟨h1, h2 a rfl⟩, fun c hc => ?_⟩
      obtain ⟨j, hj⟩ := List.getElem?_of_mem hc
      exact h3 (j + 1) c (by omega) (by simpa using hj)
theorem nm_empty {s : ByteArray} (h : s.size = 0) : nmB s.data.toList = false := by
  cases hb : nmB s.data.toList
  · rfl
  · have := ((nm_iff _).1 hb).1; rw [sz_list] at this; omega
theorem nm_long {s : ByteArray} (h : 24 < s.size) : nmB s.data.toList = false := by
  cases hb : nmB s.data.toList
  · rfl
  · have := ((nm_iff _).1 hb).2.1; rw [sz_list] at this; omega
theorem nm_first {s : ByteArray} (h0 : 0 < s.size) (h : s[0].toNat < 97 ∨ 122 < s[0].toNat) : nmB s.data.toList = false := by
  cases hb : nmB s.data.toList
  · rfl
  · have := ((nm_iff _).1 hb).2.2.1 _ (at_list s 0 h0); omega
theorem nm_bad {s : ByteArray} {k : Nat} (hk : k < s.size) (h : nmC s[k] = false) (h0 : 0 < s.size) (hf : 97 ≤ s[0].toNat ∧ s[0].toNat ≤ 122) : nmB s.data.toList = false := by
  cases hb : nmB s.data.toList
  · rfl
  · cases k with
    | zero => unfold nmC at h; rw [decide_eq_true hf.1, decide_eq_true hf.2] at h; simp at h
    | succ k => have := ((nm_iff _).1 hb).2.2.2 (k + 1) _ (by omega) (at_list s (k + 1) hk); rw [h] at this; cases this
theorem nm_ok {s : ByteArray} (h0 : 0 < s.size) (h24 : s.size ≤ 24) (hf : 97 ≤ s[0].toNat ∧ s[0].toNat ≤ 122) (ha : ∀ j c, 1 ≤ j → j < s.size → s.data.toList[j]? = some c → nmC c = true) : nmB s.data.toList = true :=
  (nm_iff _).2 ⟨by rw [sz_list]; omega, by rw [sz_list]; exact h24, fun c hc => by rw [at_list s 0 h0] at hc; cases hc; exact hf, fun i c hi hc => ha i c hi (by have := (List.getElem?_eq_some_iff.1 hc).1; rw [sz_list] at this; exact this) hc⟩
theorem nm_step {s : ByteArray} {k : Nat} (hk : k < s.size) (ha : ∀ j c, 1 ≤ j → j < k → s.data.toList[j]? = some c → nmC c = true) (h : nmC s[k] = true) : ∀ j c, 1 ≤ j → j < k + 1 → s.data.toList[j]? = some c → nmC c = true := fun j c h1 h2 hc => by
  by_cases hj : j = k
  · subst hj; rw [at_list s j hk] at hc; cases hc; exact h
  · exact ha j c h1 (by omega) hc
theorem em_size {s : ByteArray} : (s.toList == []) = decide (s.size = 0) := by
  rw [Bool.eq_iff_iff, beq_iff_eq, decide_eq_true_eq, Lib.toList_data, ← List.length_eq_zero_iff, sz_list]
set_option maxHeartbeats 4000000 in
theorem cname_any (s : ByteArray) (w : World) (hs : s.size ≤ maxLen) : Calls Try.prog 94 #[.string s] w fun e w' => e = .returned (.bool (nmB s.data.toList)) ∧ w = w' := by
  unfold maxLen at hs
  by_cases h0 : s.size = 0
  · have hb : (s.toList == []) = true := by rw [em_size]; simpa using h0
    have HQ := Lib.hid (nm_empty h0)
    clear h0
    go_enter Try.func94, Try.ntmps94
    go_wp2_with fail
    go_ret
    exact ⟨ret_bool HQ.out.symm, rfl⟩
  have hb : (s.toList == []) = false := by rw [em_size]; simpa using h0
  by_cases h24 : 24 < s.size
  · have h24i : (24 : Int) < (s.size : Int) := by omega
    have HQ := Lib.hid (nm_long h24)
    go_enter Try.func94, Try.ntmps94
    go_wp2_with fail
    go_ret
    exact ⟨ret_bool HQ.out.symm, rfl⟩
  have h24i : ¬ (24 : Int) < (s.size : Int) := by omega
  have h0p : 0 < s.size := by omega
  have h0i : (0 : Int) < (s.size : Int) := by omega
  by_cases hf : s[0].toNat < 97 ∨ 122 < s[0].toNat
  · have HQ := Lib.hid (nm_first h0p hf)
    clear h0
    go_enter Try.func94, Try.ntmps94
    rcases hf with hf | hf
    · go_wp2_with fail
      all_goals (first | (exfalso; omega) | (go_ret; exact ⟨ret_bool HQ.out.symm, rfl⟩))
    · go_wp2_with fail
      all_goals (first | (exfalso; omega) | (go_ret; exact ⟨ret_bool HQ.out.symm, rfl⟩))
  · have hf1 : 97 ≤ s[0].toNat ∧ s[0].toNat ≤ 122 := by omega
    have HF := Lib.hid hf1
    clear h0
    go_enter Try.func94, Try.ntmps94
    go_wp2_with fail
    all_goals first | (exfalso; omega) | skip
    clear hf hf1
    go_loop [3] (fun i => ∃ k : Nat, 1 ≤ k ∧ k ≤ s.size ∧ i = .int .i64 k ∧ ∀ j c, 1 ≤ j → j < k → s.data.toList[j]? = some c → nmC c = true) (fun i => s.size - (intOf i).toNat)
    case atStart => exact ⟨1, Nat.le_refl _, by omega, rfl, fun j c h1 h2 => absurd h2 (by omega)⟩
    case round =>
      obtain ⟨k, hk1, hk, rfl, ha⟩ := hrel
      have HA := Lib.hid ha
      clear ha
      by_cases hlt : k < s.size
      · by_cases h45 : s[k].toNat = 45
        · have b45 : ((s[k].toNat : Int) != 45) = false := by simp; omega
          go_wp2_with fail
          all_goals first
            | (go_ret
               refine ⟨ret_bool (nm_bad hlt ?_ h0p HF.out).symm, rfl⟩
               unfold nmC; rw [Bool.eq_iff_iff]; simp; omega)
            | (go_round
               case rel => exact ⟨k + 1, by omega, by omega, by go_num, nm_step hlt HA.out (by unfold nmC; rw [Bool.eq_iff_iff]; simp; omega)⟩
               case measure => simp [intOf]; omega)
        · have b45 : ((s[k].toNat : Int) != 45) = true := by simp; omega
          go_wp2_with fail
          all_goals first
            | (go_ret
               refine ⟨ret_bool (nm_bad hlt ?_ h0p HF.out).symm, rfl⟩
               unfold nmC; rw [Bool.eq_iff_iff]; simp; omega)
            | (go_round
               case rel => exact ⟨k + 1, by omega, by omega, by go_num, nm_step hlt HA.out (by unfold nmC; rw [Bool.eq_iff_iff]; simp; omega)⟩
               case measure => simp [intOf]; omega)
      · obtain rfl : s.size = k := by omega
        have HV := Lib.hid (nm_ok h0p (by omega) HF.out HA.out)
        go_wp2_with fail
        go_ret
        exact ⟨ret_bool HV.out.symm, rfl⟩
end Cu
end Go.Proofs.Yteaanngagcflhaa
