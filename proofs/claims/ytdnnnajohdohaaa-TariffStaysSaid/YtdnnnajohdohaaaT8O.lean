/-
  checker.name, over runes. No condition.
-/
import Derived.Test.YtdnnnajohdohaaaCkN
import Derived.BigQuiet
import Derived.StillTailTactics
import Derived.Lib.Overlaps
import Derived.Deep.DeepCutAuto
import Derived.Deep.RegionWith
import Derived.Laws.RangeString
import Derived.Laws.RangeAny
set_option maxRecDepth 100000
set_option linter.unusedVariables false
set_option linter.unusedSimpArgs false
namespace Go.Proofs.Ytdnnnajohdohaaa
open Go.RowKit

namespace Ck
theorem empty_size {s : ByteArray} (h : (s.toList == []) = true) : s.size = 0 := by
  rw [beq_iff_eq, Lib.toList_data] at h
  have := congrArg List.length h
  simpa using this
theorem full_size {s : ByteArray} (h : (s.toList == []) = false) : s.size ≠ 0 := by
  intro h0
  rw [beq_eq_false_iff_ne, Lib.toList_data] at h
  exact h (List.eq_nil_of_length_eq_zero (by simpa using h0))
set_option maxHeartbeats 8000000 in
theorem name_any (s : ByteArray) (w : World) (hs : s.size ≤ maxLen) :
    Calls Try.prog 35 #[.string s] w fun e w' => e = .returned (.bool (nameB s)) ∧ Below w.heap.size w w' := by
  unfold maxLen at hs
  cases hq : (s.toList == [])
  · have hsz := full_size hq
    by_cases h2 : (24 : Int) < (s.size : Int)
    · go_enter Try.func35, Try.ntmps35
      go_wp2_with fail
      go_ret
      exact ⟨ret_bool (name_short (.inr (by omega))).symm, Below.refl _ _⟩
    go_enter Try.func35, Try.ntmps35
    go_wp2_with fail
    clear hq
    go_loopw [5] (fun n w' => ∃ k, k ≤ s.size ∧ w' = w.iter s k ∧ ∀ j, j < k → chB s j = true) (fun n w' => s.size - w'.iterPos w.heap.size)
    case atStart => exact ⟨0, Nat.zero_le _, rfl, fun j hj => absurd hj (by omega)⟩
    case round =>
      obtain ⟨k, hk, rfl, ha⟩ := hrel
      have HA := Lib.hid ha
      clear ha
      by_cases hlt : k < s.size
      · have HCH := Lib.hid (chB_at hlt)
        obtain ⟨c, hc⟩ : ∃ c : Nat, s[k].toNat = c := ⟨_, rfl⟩
        rw [hc] at HCH
        by_cases hasc : c < 128
        · have hnx : ∀ ty, (Instr.next (.pointer (some ⟨w.heap.size, 0, none⟩)) true ty).run Try.prog (w.iter s k) = .ok (.tuple #[.bool true, .int .i64 k, .int .i32 (c : Int)]) (w.iter s (k + 1)) := fun ty => by
            rw [← hc]; exact run_next_ascii w s k ty hlt (by omega)
          clear hc
          by_cases b1 : (97 : Int) ≤ c <;> by_cases b2 : (c : Int) ≤ 122 <;> by_cases b3 : k = 0 <;> by_cases b4 : c = 45 <;> by_cases b5 : (c : Int) < 48 <;> by_cases b6 : (57 : Int) < c
          all_goals (try (exfalso; omega))
          all_goals
            first
            | have HN : Hid (nmC k c = true) := Lib.hid (nmC_yes (by omega))
            | have HN : Hid (nmC k c = false) := Lib.hid (nmC_no (by omega))
            first
            | have q3 : ((k : Int) == 0) = true := by rw [beq_iff_eq]; omega
            | have q3 : ((k : Int) == 0) = false := by rw [beq_eq_false_iff_ne]; omega
            first
            | have q4 : ((c : Int) != 45) = true := by rw [bne_iff_ne]; omega
            | have q4 : ((c : Int) != 45) = false := by rw [bne_eq_false_iff_eq]; omega
            clear b3 b4
            go_wp2_with fail
            first
            | (go_ret
               exact ⟨ret_bool (name_no hlt (HCH.out.trans HN.out)).symm, (Below.refl _ _).alloc (Nat.le_refl _) _⟩)
            | (go_roundw
               case rel => exact ⟨k + 1, by omega, rfl, ch_step HA.out (HCH.out.trans HN.out)⟩
               case measure => simp; omega)
        · obtain ⟨hd1, hd2⟩ := decode_high s k hlt (by omega)
          have hnx : ∀ ty, (Instr.next (.pointer (some ⟨w.heap.size, 0, none⟩)) true ty).run Try.prog (w.iter s k) = .ok (.tuple #[.bool true, .int .i64 k, .int .i32 (Utf8.decode s k).1]) (w.iter s (k + (Utf8.decode s k).2)) := fun ty => run_next_any w s k ty hlt
          obtain ⟨d, hd⟩ : ∃ d : Nat, (Utf8.decode s k).1 = d := ⟨_, rfl⟩
          obtain ⟨m, hm⟩ : ∃ m : Nat, (Utf8.decode s k).2 = m := ⟨_, rfl⟩
          rw [hd, hm] at hnx
          rw [hd] at hd1
          have HN : Hid (nmC k c = false) := Lib.hid (nmC_no (by omega))
          have b1 : (97 : Int) ≤ (d : Int) := by omega
          have b2 : ¬ (d : Int) ≤ 122 := by omega
          have q4 : ((d : Int) != 45) = true := by rw [bne_iff_ne]; omega
          have b5 : ¬ (d : Int) < 48 := by omega
          have b6 : (57 : Int) < (d : Int) := by omega
          clear hc hd hm
          cases q3 : ((k : Int) == 0)
          all_goals
            go_wp2_with fail
            go_ret
            exact ⟨ret_bool (name_no hlt (HCH.out.trans HN.out)).symm, (Below.refl _ _).alloc (Nat.le_refl _) _⟩
      · obtain rfl : s.size = k := by omega
        have hnx : ∀ ty, (Instr.next (.pointer (some ⟨w.heap.size, 0, none⟩)) true ty).run Try.prog (w.iter s s.size) = .ok (.tuple #[.bool false]) (w.iter s s.size) := fun ty => run_next_end w s s.size ty (by omega)
        have HV := Lib.hid (name_yes (by omega) (by omega) HA.out)
        go_wp2_with fail
        go_ret
        exact ⟨ret_bool HV.out.symm, (Below.refl _ _).alloc (Nat.le_refl _) _⟩
  · have HZ := Lib.hid (empty_size hq)
    go_enter Try.func35, Try.ntmps35
    go_wp2_with fail
    go_ret
    exact ⟨ret_bool (name_short (.inl (by rw [HZ.out]; decide))).symm, Below.refl _ _⟩
end Ck
end Go.Proofs.Ytdnnnajohdohaaa
