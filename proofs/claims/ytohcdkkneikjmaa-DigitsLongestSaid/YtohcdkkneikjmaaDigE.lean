/-
  Digits: the reference's Longest. No condition.
-/
import Derived.Test.YtohcdkkneikjmaaDigD
import Derived.BigQuiet
import Derived.StillTailTactics
import Derived.Lib.Overlaps
import Derived.Deep.DeepCutAuto
set_option maxRecDepth 100000
set_option linter.unusedVariables false
set_option linter.unusedSimpArgs false
namespace Go.Proofs.Ytohcdkkneikjmaa
open Go.RowKit

namespace Dg

set_option maxHeartbeats 1000000 in
theorem reflongest_any (s : ByteArray) (A : Option Addr) (n c : Nat) (ps : List ByteArray) (w : World) (h : Sl w A n c ps) :
    Calls Try.prog 12 #[.string s, .slice A n c] w fun e w' => e = .returned (.int .i64 (longK s.data.toList (Lt ps) n)) ∧ Below w.heap.size w w' := by
  have hn := h.nmax
  have H := Lib.hid h
  clear h
  go_enter Try.func12, Try.ntmps12
  go_wp2_with fail
  go_loopw [5, 6] (fun v i wr => ∃ k : Nat, k ≤ n ∧ i = .int .i64 k ∧ v = .int .i64 (longK s.data.toList (Lt ps) k) ∧ Below w.heap.size w wr) (fun _ i _ => n - (intOf i).toNat)
  case atStart => exact ⟨0, Nat.zero_le _, rfl, rfl, Below.refl _ _⟩
  case round =>
    obtain ⟨k, hk, rfl, rfl, hb⟩ := hrel
    have hzs := hb.size
    have HR := Lib.hid (H.out.below hb)
    by_cases hlt : k < n
    · obtain ⟨b, off, rfl, hbw, hc⟩ := Sl.one rfl HR.out (by omega)
      obtain ⟨p, hp⟩ := H.out.get hlt
      have c0 : wr.cell? ⟨b, off + k, none⟩ = some (.string p) := hc k p _ hp rfl
      have hbd := longK_bd s.data.toList (Lt ps) k
      obtain ⟨B, hB⟩ : ∃ B, longK s.data.toList (Lt ps) k = B := ⟨_, rfl⟩
      rw [hB] at hbd
      cases hpre : Lib.hasPrefix s.data.toList p.data.toList
      · have HN := Lib.hid ((long_no hp hpre).trans hB)
        rw [hB]
        clear hB hp hc
        go_wp2_with ((with_reducible refine wp_region_quiet_lit ?_ ?_ ?_); kernel_rfl; kernel_rfl; (repeat (any_goals (first | go_big_quiet_step ((go_at_call 24; exact Calls.quiet_of_same (flip (refprefix_any _ _ _)))) | (refine wpQuiet_step (fun K hK => ?_); go_simp; (first | (refine hK _ ?_; clear hK K) | (split <;> rename_i hg <;> (refine hK _ ?_; clear hK K) <;> (try simp only [Bool.not_eq_true] at hg) <;> (first | simp only [Int.not_lt.2 hg, decide_false] | simp only [Int.not_le.1 hg, decide_true] | simp only [hg, decide_true, decide_false] | skip))))))); all_goals (refine wpQuiet_nil ?_; intro _ hw'; obtain ⟨nq, hw''⟩ := hw'; subst hw''))
        go_roundw
        case rel => exact ⟨k + 1, by omega, by go_num, by rw [HN.out], by (repeat (first | exact hb | exact Below.refl _ _ | (refine Below.alloc ?_ (by (try simp) <;> omega) _) | (refine Below.setCell ?_ (by (try simp) <;> omega) _) | refine Below.drew ?_ | refine below_drewN ?_ _))⟩
        case measure => simp [intOf]; omega
      · by_cases hneg : B < 0
        · have HN := Lib.hid (long_yes hp hpre (.inl (by rw [hB]; exact hneg)))
          rw [hB]
          clear hB hp hc
          obtain rfl : B = -1 := by omega
          go_wp2_with ((with_reducible refine wp_region_quiet_lit ?_ ?_ ?_); kernel_rfl; kernel_rfl; (repeat (any_goals (first | go_big_quiet_step ((go_at_call 24; exact Calls.quiet_of_same (flip (refprefix_any _ _ _)))) | (refine wpQuiet_step (fun K hK => ?_); go_simp; (first | (refine hK _ ?_; clear hK K) | (split <;> rename_i hg <;> (refine hK _ ?_; clear hK K) <;> (try simp only [Bool.not_eq_true] at hg) <;> (first | simp only [Int.not_lt.2 hg, decide_false] | simp only [Int.not_le.1 hg, decide_true] | simp only [hg, decide_true, decide_false] | skip))))))); all_goals (refine wpQuiet_nil ?_; intro _ hw'; obtain ⟨nq, hw''⟩ := hw'; subst hw''))
          go_roundw
          case rel => exact ⟨k + 1, by omega, by go_num, by rw [HN.out], by (repeat (first | exact hb | exact Below.refl _ _ | (refine Below.alloc ?_ (by (try simp) <;> omega) _) | (refine Below.setCell ?_ (by (try simp) <;> omega) _) | refine Below.drew ?_ | refine below_drewN ?_ _))⟩
          case measure => simp [intOf]; omega
        · obtain ⟨m, rfl⟩ : ∃ m : Nat, B = m := ⟨B.toNat, by omega⟩
          have hmk : m < n := by omega
          obtain ⟨q, hq⟩ := H.out.get hmk
          have c1 : wr.cell? ⟨b, off + m, none⟩ = some (.string q) := hc m q _ hq rfl
          have hla : lenAt (Lt ps) (m : Int) = q.size := by unfold lenAt; rw [show (m : Int).toNat = m from rfl, Lt_at hq, size_list]
          by_cases hsz : q.size < p.size
          · have HN := Lib.hid (long_yes hp hpre (.inr (by rw [hB, hla]; exact hsz)))
            rw [hB]
            clear hB hp hc hq hla
            have hd1 : decide ((q.size : Int) < p.size) = true := by simpa using hsz
            have hd2 : decide (q.size < p.size) = true := by simpa using hsz
            have hm0 : decide ((m : Int) < 0) = false := decide_eq_false (by omega)
            go_wp2_with ((with_reducible refine wp_region_quiet_lit ?_ ?_ ?_); kernel_rfl; kernel_rfl; (repeat (any_goals (first | go_big_quiet_step ((go_at_call 24; exact Calls.quiet_of_same (flip (refprefix_any _ _ _)))) | (refine wpQuiet_step (fun K hK => ?_); go_simp; (first | (refine hK _ ?_; clear hK K) | (split <;> rename_i hg <;> (refine hK _ ?_; clear hK K) <;> (try simp only [Bool.not_eq_true] at hg) <;> (first | simp only [Int.not_lt.2 hg, decide_false] | simp only [Int.not_le.1 hg, decide_true] | simp only [hg, decide_true, decide_false] | skip))))))); all_goals (refine wpQuiet_nil ?_; intro _ hw'; obtain ⟨nq, hw''⟩ := hw'; subst hw''))
            go_roundw
            case rel => exact ⟨k + 1, by omega, by go_num, by rw [HN.out], by (repeat (first | exact hb | exact Below.refl _ _ | (refine Below.alloc ?_ (by (try simp) <;> omega) _) | (refine Below.setCell ?_ (by (try simp) <;> omega) _) | refine Below.drew ?_ | refine below_drewN ?_ _))⟩
            case measure => simp [intOf]; omega
          · have HN := Lib.hid ((long_no2 hp (by rw [hB]; omega) (by rw [hB, hla]; exact hsz)).trans hB)
            rw [hB]
            clear hB hp hc hq hla
            have hd1 : decide ((q.size : Int) < p.size) = false := by simpa using hsz
            have hd2 : decide (q.size < p.size) = false := by simpa using hsz
            have hm0 : decide ((m : Int) < 0) = false := decide_eq_false (by omega)
            go_wp2_with ((with_reducible refine wp_region_quiet_lit ?_ ?_ ?_); kernel_rfl; kernel_rfl; (repeat (any_goals (first | go_big_quiet_step ((go_at_call 24; exact Calls.quiet_of_same (flip (refprefix_any _ _ _)))) | (refine wpQuiet_step (fun K hK => ?_); go_simp; (first | (refine hK _ ?_; clear hK K) | (split <;> rename_i hg <;> (refine hK _ ?_; clear hK K) <;> (try simp only [Bool.not_eq_true] at hg) <;> (first | simp only [Int.not_lt.2 hg, decide_false] | simp only [Int.not_le.1 hg, decide_true] | simp only [hg, decide_true, decide_false] | skip))))))); all_goals (refine wpQuiet_nil ?_; intro _ hw'; obtain ⟨nq, hw''⟩ := hw'; subst hw''))
            go_roundw
            case rel => exact ⟨k + 1, by omega, by go_num, by rw [HN.out], by (repeat (first | exact hb | exact Below.refl _ _ | (refine Below.alloc ?_ (by (try simp) <;> omega) _) | (refine Below.setCell ?_ (by (try simp) <;> omega) _) | refine Below.drew ?_ | refine below_drewN ?_ _))⟩
            case measure => simp [intOf]; omega
    · obtain rfl : n = k := by omega
      go_wp2_with fail
      go_ret
      exact ⟨rfl, hb⟩


end Dg
end Go.Proofs.Ytohcdkkneikjmaa
