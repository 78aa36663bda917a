/-
  Names in plain words, and the walks that check them. No condition.
-/
import Derived.Test.YtdnnnajohdohaaaExC
import Derived.BigQuiet
import Derived.StillTailTactics
import Derived.Lib.Overlaps
import Derived.Deep.DeepCutAuto
import Derived.LoopN
set_option maxRecDepth 100000
set_option linter.unusedVariables false
set_option linter.unusedSimpArgs false
namespace Go.Proofs.Ytdnnnajohdohaaa
open Go.RowKit

namespace Ck
def nmC (i c : Nat) : Bool := (decide (97 ≤ c) && decide (c ≤ 122)) || (decide (i ≠ 0) && (decide (c = 45) || (decide (48 ≤ c) && decide (c ≤ 57))))
def chB (s : ByteArray) (i : Nat) : Bool := if h : i < s.size then nmC i s[i].toNat else true
def nameB (s : ByteArray) : Bool := decide (1 ≤ s.size) && decide (s.size ≤ 24) && allB s.size (chB s)
theorem chB_at {s : ByteArray} {k : Nat} (h : k < s.size) : chB s k = nmC k s[k].toNat := by unfold chB; rw [dif_pos h]
theorem name_no {s : ByteArray} {k : Nat} (h : k < s.size) (hc : chB s k = false) : nameB s = false := by
  unfold nameB
  rw [allB_false h hc, Bool.and_false]
theorem name_end {s : ByteArray} (h : ∀ j, j < s.size → chB s j = true) : nameB s = (decide (1 ≤ s.size) && decide (s.size ≤ 24)) := by
  unfold nameB
  rw [allB_true h, Bool.and_true]
theorem nmC_yes {i c : Nat} (h : (97 ≤ c ∧ c ≤ 122) ∨ (i ≠ 0 ∧ (c = 45 ∨ (48 ≤ c ∧ c ≤ 57)))) : nmC i c = true := by
  unfold nmC; simp only [Bool.or_eq_true, Bool.and_eq_true, decide_eq_true_eq]; omega
theorem nmC_no {i c : Nat} (h : ¬ ((97 ≤ c ∧ c ≤ 122) ∨ (i ≠ 0 ∧ (c = 45 ∨ (48 ≤ c ∧ c ≤ 57))))) : nmC i c = false := by
  cases hq : nmC i c with
  | false => rfl
  | true => unfold nmC at hq; simp only [Bool.or_eq_true, Bool.and_eq_true, decide_eq_true_eq] at hq; omega
theorem ch_step {s : ByteArray} {k : Nat} (h : ∀ j, j < k → chB s j = true) (hk : chB s k = true) : ∀ j, j < k + 1 → chB s j = true := fun j hj => by
  by_cases hjk : j < k
  · exact h j hjk
  · obtain rfl : j = k := by omega
    exact hk
set_option maxHeartbeats 4000000 in
theorem zname_any (s : ByteArray) (w : World) (hs : s.size ≤ maxLen) :
    Calls Try.prog 72 #[.string s] w fun e w' => e = .returned (.bool (nameB s)) ∧ w = w' := by
  unfold maxLen at hs
  go_enter Try.func72, Try.ntmps72
  go_wp2_with fail
  go_loop [7] (fun i => ∃ k : Nat, k ≤ s.size ∧ i = .int .i64 k ∧ ∀ j, j < k → chB s j = true) (fun i => s.size - (intOf i).toNat)
  case atStart => exact ⟨0, Nat.zero_le _, rfl, fun j hj => absurd hj (by omega)⟩
  case round =>
    obtain ⟨k, hk, rfl, ha⟩ := hrel
    have HA := Lib.hid ha
    clear ha
    by_cases hlt : k < s.size
    · have hch := chB_at hlt
      obtain ⟨c, hc⟩ : ∃ c : Nat, s[k].toNat = c := ⟨_, rfl⟩
      rw [hc] at hch
      have HCH := Lib.hid hch
      clear hch
      by_cases b1 : (c : Int) < 97 <;> by_cases b2 : (122 : Int) < c <;> by_cases b3 : k = 0 <;> by_cases b4 : c = 45 <;> by_cases b5 : (c : Int) < 48 <;> by_cases b6 : (57 : Int) < c
      all_goals (try (exfalso; omega))
      all_goals
        first
        | have HN : Hid (nmC k c = true) := Lib.hid (nmC_yes (by omega))
        | have HN : Hid (nmC k c = false) := Lib.hid (nmC_no (by omega))
        first
        | have q3 : ((k : Int) == 0) = true := by rw [beq_iff_eq]; omega
        | have q3 : ((k : Int) == 0) = false := by rw [beq_eq_false_iff_ne]; omega
        first
        | have q4 : ((c : Int) != 45) = true := by rw [bne_iff_ne]; omega
        | have q4 : ((c : Int) != 45) = false := by rw [bne_eq_false_iff_eq]; omega
        clear b3 b4
        go_wp2_with fail
        first
        | (go_ret
           exact ⟨ret_bool (name_no hlt (HCH.out.trans HN.out)).symm, rfl⟩)
        | (go_round
           case rel => exact ⟨k + 1, by omega, by go_num, ch_step HA.out (HCH.out.trans HN.out)⟩
           case measure => simp [intOf]; omega)
    · obtain rfl : s.size = k := by omega
      have HV := Lib.hid (name_end HA.out)
      go_wp2_with fail
      all_goals (go_ret; refine ⟨ret_bool ?_, rfl⟩; rw [HV.out]; (rw [Bool.eq_iff_iff]; (try simp only [Bool.and_eq_true, Bool.or_eq_true, Bool.not_eq_true', decide_eq_true_eq, decide_eq_false_iff_not, Bool.false_eq_true, Bool.true_eq_false, false_iff, true_iff, iff_false, iff_true]); omega))
set_option maxHeartbeats 4000000 in
theorem bname_any (s : ByteArray) (w : World) (hs : s.size ≤ maxLen) :
    Calls Try.prog 53 #[.string s] w fun e w' => e = .returned (.bool (nameB s)) ∧ w = w' := by
  unfold maxLen at hs
  go_enter Try.func53, Try.ntmps53
  go_wp2_with fail
  go_loop [7] (fun i => ∃ k : Nat, k ≤ s.size ∧ i = .int .i64 k ∧ ∀ j, j < k → chB s j = true) (fun i => s.size - (intOf i).toNat)
  case atStart => exact ⟨0, Nat.zero_le _, rfl, fun j hj => absurd hj (by omega)⟩
  case round =>
    obtain ⟨k, hk, rfl, ha⟩ := hrel
    have HA := Lib.hid ha
    clear ha
    by_cases hlt : k < s.size
    · have hch := chB_at hlt
      obtain ⟨c, hc⟩ : ∃ c : Nat, s[k].toNat = c := ⟨_, rfl⟩
      rw [hc] at hch
      have HCH := Lib.hid hch
      clear hch
      by_cases b1 : (c : Int) < 97 <;> by_cases b2 : (122 : Int) < c <;> by_cases b3 : k = 0 <;> by_cases b4 : c = 45 <;> by_cases b5 : (c : Int) < 48 <;> by_cases b6 : (57 : Int) < c
      all_goals (try (exfalso; omega))
      all_goals
        first
        | have HN : Hid (nmC k c = true) := Lib.hid (nmC_yes (by omega))
        | have HN : Hid (nmC k c = false) := Lib.hid (nmC_no (by omega))
        first
        | have q3 : ((k : Int) == 0) = true := by rw [beq_iff_eq]; omega
        | have q3 : ((k : Int) == 0) = false := by rw [beq_eq_false_iff_ne]; omega
        first
        | have q4 : ((c : Int) != 45) = true := by rw [bne_iff_ne]; omega
        | have q4 : ((c : Int) != 45) = false := by rw [bne_eq_false_iff_eq]; omega
        clear b3 b4
        go_wp2_with fail
        first
        | (go_ret
           exact ⟨ret_bool (name_no hlt (HCH.out.trans HN.out)).symm, rfl⟩)
        | (go_round
           case rel => exact ⟨k + 1, by omega, by go_num, ch_step HA.out (HCH.out.trans HN.out)⟩
           case measure => simp [intOf]; omega)
    · obtain rfl : s.size = k := by omega
      have HV := Lib.hid (name_end HA.out)
      go_wp2_with fail
      all_goals (go_ret; refine ⟨ret_bool ?_, rfl⟩; rw [HV.out]; (rw [Bool.eq_iff_iff]; (try simp only [Bool.and_eq_true, Bool.or_eq_true, Bool.not_eq_true', decide_eq_true_eq, decide_eq_false_iff_not, Bool.false_eq_true, Bool.true_eq_false, false_iff, true_iff, iff_false, iff_true]); omega))
def lowB (c : Nat) : Bool := decide (97 ≤ c) && decide (c ≤ 122)
def dgtB (c : Nat) : Bool := decide (48 ≤ c) && decide (c ≤ 57)
theorem lower_any (c : UInt8) (w : World) : Calls Try.prog 62 #[.int .u8 (c.toNat : Int)] w fun e w' => e = .returned (.bool (lowB c.toNat)) ∧ w = w' := by
  go_enter Try.func62, Try.ntmps62
  go_wp2
  all_goals (go_ret; refine ⟨ret_bool ?_, rfl⟩; unfold lowB; rw [Bool.eq_iff_iff]; simp; try omega)
theorem rdigit_any (c : UInt8) (w : World) : Calls Try.prog 63 #[.int .u8 (c.toNat : Int)] w fun e w' => e = .returned (.bool (dgtB c.toNat)) ∧ w = w' := by
  go_enter Try.func63, Try.ntmps63
  go_wp2
  all_goals (go_ret; refine ⟨ret_bool ?_, rfl⟩; unfold dgtB; rw [Bool.eq_iff_iff]; simp; try omega)
theorem nmC_eq (i c : Nat) : nmC i c = (lowB c || (decide (i ≠ 0) && (decide (c = 45) || dgtB c))) := rfl
theorem name_short {s : ByteArray} (h : s.size < 1 ∨ 24 < s.size) : nameB s = false := by
  unfold nameB
  rcases h with h | h
  · rw [decide_eq_false (by omega : ¬ 1 ≤ s.size)]; rfl
  · rw [decide_eq_false (by omega : ¬ s.size ≤ 24)]; simp
theorem name_first {s : ByteArray} (h : 0 < s.size) (hl : lowB s[0].toNat = false) : nameB s = false := by
  refine name_no h ?_
  rw [chB_at h, nmC_eq, hl]; simp
theorem name_yes {s : ByteArray} (h1 : ¬ s.size < 1) (h2 : ¬ 24 < s.size) (h : ∀ j, j < s.size → chB s j = true) : nameB s = true := by
  rw [name_end h, decide_eq_true (by omega : 1 ≤ s.size), decide_eq_true (by omega : s.size ≤ 24)]; rfl
set_option maxHeartbeats 4000000 in
theorem refname_any (s : ByteArray) (w : World) (hs : s.size ≤ maxLen) :
    Calls Try.prog 41 #[.string s] w fun e w' => e = .returned (.bool (nameB s)) ∧ w = w' := by
  unfold maxLen at hs
  by_cases h1 : (s.size : Int) < 1
  · go_enter Try.func41, Try.ntmps41
    go_wp2_with fail
    go_ret
    exact ⟨ret_bool (name_short (.inl (by omega))).symm, rfl⟩
  by_cases h2 : (24 : Int) < (s.size : Int)
  · go_enter Try.func41, Try.ntmps41
    go_wp2_with fail
    go_ret
    exact ⟨ret_bool (name_short (.inr (by omega))).symm, rfl⟩
  have h0 : 0 < s.size := by omega
  cases hl0 : lowB s[0].toNat
  · have HL := Lib.hid hl0
    clear hl0
    go_enter Try.func41, Try.ntmps41
    go_wp2_with fail
    refine (lower_any _ _).mono ?_
    rintro e w' ⟨rfl, rfl⟩
    rw [HL.out]
    go_wp2_with fail
    go_ret
    exact ⟨ret_bool (name_first h0 HL.out).symm, rfl⟩
  have HL := Lib.hid hl0
  clear hl0
  go_enter Try.func41, Try.ntmps41
  go_wp2_with fail
  refine (lower_any _ _).mono ?_
  rintro e w' ⟨rfl, rfl⟩
  rw [HL.out]
  go_wp2_with fail
  go_loop [3] (fun i => ∃ k : Nat, k ≤ s.size ∧ i = .int .i64 k ∧ ∀ j, j < k → chB s j = true) (fun i => s.size - (intOf i).toNat)
  case atStart => exact ⟨0, Nat.zero_le _, rfl, fun j hj => absurd hj (by omega)⟩
  case round =>
    obtain ⟨k, hk, rfl, ha⟩ := hrel
    have HA := Lib.hid ha
    clear ha
    by_cases hlt : k < s.size
    · have HCH := Lib.hid (chB_at hlt)
      cases hl : lowB s[k].toNat
      · have HLK := Lib.hid hl
        have hk0 : k ≠ 0 := by
          intro e
          subst e
          rw [HL.out] at hl
          cases hl
        clear hl
        cases hd : dgtB s[k].toNat
        · have HDK := Lib.hid hd
          clear hd
          by_cases h45 : s[k].toNat = 45
          · have HN : Hid (chB s k = true) := Lib.hid (by rw [HCH.out, nmC_eq, h45, decide_eq_true hk0]; simp)
            have q4 : ((s[k].toNat : Int) != 45) = false := by rw [bne_eq_false_iff_eq]; omega
            clear h45 hk0
            go_wp2_with fail
            refine (lower_any _ _).mono ?_
            rintro e w' ⟨rfl, rfl⟩
            rw [HLK.out]
            go_wp2_with fail
            refine (rdigit_any _ _).mono ?_
            rintro e w' ⟨rfl, rfl⟩
            rw [HDK.out]
            go_wp2_with fail
            go_round
            case rel => exact ⟨k + 1, by omega, by go_num, ch_step HA.out HN.out⟩
            case measure => simp [intOf]; omega
          · have HN : Hid (chB s k = false) := Lib.hid (by rw [HCH.out, nmC_eq, HLK.out, HDK.out, decide_eq_false h45]; simp)
            have q4 : ((s[k].toNat : Int) != 45) = true := by rw [bne_iff_ne]; omega
            clear h45 hk0
            go_wp2_with fail
            refine (lower_any _ _).mono ?_
            rintro e w' ⟨rfl, rfl⟩
            rw [HLK.out]
            go_wp2_with fail
            refine (rdigit_any _ _).mono ?_
            rintro e w' ⟨rfl, rfl⟩
            rw [HDK.out]
            go_wp2_with fail
            go_ret
            exact ⟨ret_bool (name_no hlt HN.out).symm, rfl⟩
        · have HDK := Lib.hid hd
          have HN : Hid (chB s k = true) := Lib.hid (by rw [HCH.out, nmC_eq, hd, decide_eq_true hk0]; simp)
          clear hd hk0
          go_wp2_with fail
          refine (lower_any _ _).mono ?_
          rintro e w' ⟨rfl, rfl⟩
          rw [HLK.out]
          go_wp2_with fail
          refine (rdigit_any _ _).mono ?_
          rintro e w' ⟨rfl, rfl⟩
          rw [HDK.out]
          go_wp2_with fail
          go_round
          case rel => exact ⟨k + 1, by omega, by go_num, ch_step HA.out HN.out⟩
          case measure => simp [intOf]; omega
      · have HLK := Lib.hid hl
        have HN : Hid (chB s k = true) := Lib.hid (by rw [HCH.out, nmC_eq, hl]; simp)
        clear hl
        go_wp2_with fail
        refine (lower_any _ _).mono ?_
        rintro e w' ⟨rfl, rfl⟩
        rw [HLK.out]
        go_wp2_with fail
        go_round
        case rel => exact ⟨k + 1, by omega, by go_num, ch_step HA.out HN.out⟩
        case measure => simp [intOf]; omega
    · obtain rfl : s.size = k := by omega
      have HV := Lib.hid (name_yes (by omega) (by omega) HA.out)
      go_wp2_with fail
      go_ret
      exact ⟨ret_bool HV.out.symm, rfl⟩
set_option maxHeartbeats 4000000 in
theorem ref5name_any (s : ByteArray) (w : World) (hs : s.size ≤ maxLen) :
    Calls Try.prog 65 #[.string s] w fun e w' => e = .returned (.bool (nameB s)) ∧ Below w.heap.size w w' := by
  unfold maxLen at hs
  by_cases h1 : (s.size : Int) < 1
  · go_enter Try.func65, Try.ntmps65
    go_wp2_with fail
    go_ret
    exact ⟨ret_bool (name_short (.inl (by omega))).symm, Below.refl _ _⟩
  by_cases h2 : (24 : Int) < (s.size : Int)
  · go_enter Try.func65, Try.ntmps65
    go_wp2_with fail
    go_ret
    exact ⟨ret_bool (name_short (.inr (by omega))).symm, Below.refl _ _⟩
  have h0 : 0 < s.size := by omega
  by_cases l1 : (s[0].toNat : Int) < 97
  · have HL : Hid (lowB s[0].toNat = false) := Lib.hid (by unfold lowB; rw [decide_eq_false (by omega : ¬ 97 ≤ s[0].toNat)]; rfl)
    go_enter Try.func65, Try.ntmps65
    go_wp2_with fail
    go_ret
    exact ⟨ret_bool (name_first h0 HL.out).symm, Below.refl _ _⟩
  by_cases l2 : (122 : Int) < (s[0].toNat : Int)
  · have HL : Hid (lowB s[0].toNat = false) := Lib.hid (by unfold lowB; rw [decide_eq_false (by omega : ¬ s[0].toNat ≤ 122)]; simp)
    go_enter Try.func65, Try.ntmps65
    go_wp2_with fail
    go_ret
    exact ⟨ret_bool (name_first h0 HL.out).symm, Below.refl _ _⟩
  have HL : Hid (97 ≤ s[0].toNat ∧ s[0].toNat ≤ 122) := Lib.hid (by omega)
  go_enter Try.func65, Try.ntmps65
  go_wp2_with fail
  clear l1 l2
  go_loopw [3] (fun i wr => ∃ k : Nat, k ≤ s.size ∧ i = .int .i64 k ∧ (∀ j, j < k → chB s j = true) ∧ Below w.heap.size w wr) (fun i _ => s.size - (intOf i).toNat)
  case atStart => exact ⟨0, Nat.zero_le _, rfl, fun j hj => absurd hj (by omega), Below.refl _ _⟩
  case round =>
    obtain ⟨k, hk, rfl, ha, hb⟩ := hrel
    have HA := Lib.hid ha
    clear ha
    by_cases hlt : k < s.size
    · have HCH := Lib.hid (chB_at hlt)
      have hzero : k = 0 → 97 ≤ s[k].toNat ∧ s[k].toNat ≤ 122 := fun e => by subst e; exact HL.out
      obtain ⟨c, hc⟩ : ∃ c : Nat, s[k].toNat = c := ⟨_, rfl⟩
      rw [hc] at HCH hzero
      by_cases b1 : (97 : Int) ≤ c <;> by_cases b2 : (c : Int) ≤ 122 <;> by_cases b4 : c = 45 <;> by_cases b5 : (48 : Int) ≤ c <;> by_cases b6 : (c : Int) ≤ 57
      all_goals (try (exfalso; omega))
      all_goals
        first
        | have HN : Hid (nmC k c = true) := Lib.hid (nmC_yes (by omega))
        | have HN : Hid (nmC k c = false) := Lib.hid (nmC_no (by omega))
        first
        | have q4 : ((c : Int) != 45) = true := by rw [bne_iff_ne]; omega
        | have q4 : ((c : Int) != 45) = false := by rw [bne_eq_false_iff_eq]; omega
        clear b4 hzero
        go_upto_region 6 with (fail)
        ((with_reducible refine wp_region_quiet_lit ?_ ?_ ?_); kernel_rfl; kernel_rfl; (repeat (any_goals (first | go_big_quiet_step (fail) | (refine wpQuiet_step (fun K hK => ?_); go_simp; (first | (refine hK _ ?_; clear hK K) | (split <;> rename_i hg <;> (refine hK _ ?_; clear hK K) <;> (try simp only [Bool.not_eq_true] at hg) <;> (first | simp only [Int.not_lt.2 hg, decide_false] | simp only [Int.not_le.1 hg, decide_true] | simp only [hg, decide_true, decide_false] | skip))))))); all_goals (refine wpQuiet_nil ?_; intro _ hw'; obtain ⟨nq, hw''⟩ := hw'; subst hw''))
        go_wp2_with fail
        first
        | (go_ret
           exact ⟨ret_bool (name_no hlt (HCH.out.trans HN.out)).symm, below_drewN hb _⟩)
        | (go_roundw
           case rel => exact ⟨k + 1, by omega, by go_num, ch_step HA.out (HCH.out.trans HN.out), below_drewN hb _⟩
           case measure => simp [intOf]; omega)
    · obtain rfl : s.size = k := by omega
      have HV := Lib.hid (name_yes (by omega) (by omega) HA.out)
      go_wp2_with fail
      go_ret
      exact ⟨ret_bool HV.out.symm, hb⟩
end Ck
end Go.Proofs.Ytdnnnajohdohaaa
